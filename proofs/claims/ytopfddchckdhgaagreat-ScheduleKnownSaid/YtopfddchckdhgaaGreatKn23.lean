
/- The statement ScheduleKnown, walked. -/
import Derived.Test.YtopfddchckdhgaaGreatKnV23
namespace Go.Proofs.YtopfddchckdhgaaGreat
set_option linter.unusedSimpArgs false
set_option linter.unusedVariables false
open Go Go.RowKit
set_option maxRecDepth 100000
set_option linter.unusedSectionVars false
set_option maxHeartbeats 16000000
section
variable {w : World}
theorem lawScheduleKnown : Ret Tryz.prog 8 #[] w (.bool true) := by
  have hn : Now w := trivial
  have hx : Ext w w := Ext.refl w
  (refine callsV_of Tryz.func8 rfl KR KR ?_; rw [Tryz.results8])
  (repeat' ((fail_if_success (with_reducible first | refine stop_h ?_ | refine stop_c ?_ | refine stop_s ?_ | refine stop_i ?_ | refine stop_l ?_ | refine stop_m ?_ | refine stop_o ?_ | refine stop_n ?_ | refine stop_e ?_ | refine stop_b ?_)); first
    | with_reducible first | exact ⟨⟩ | (refine gB ?_; intros) | refine gT ?_ ?_
    | refine gs ?_
    | refine sx ?_))
  refine call_k (law23house (n := 2) (by decide)) ?_
  rintro hv w1 n1 s1 hH1
  have r1 := Ext.refl w1
  (repeat' ((fail_if_success (with_reducible first | refine stop_h ?_ | refine stop_c ?_ | refine stop_s ?_ | refine stop_i ?_ | refine stop_l ?_ | refine stop_m ?_ | refine stop_o ?_ | refine stop_n ?_ | refine stop_e ?_ | refine stop_b ?_)); first
    | with_reducible first | exact ⟨⟩ | (refine gB ?_; intros) | refine gT ?_ ?_
    | refine gs ?_
    | refine sx ?_))
  refine call_k law23two ?_
  rintro pv w2 n2 s2 hP2
  have r2 := Ext.refl w2
  have hH2 : HouV w2 hv 2 := hH1.ext FR
  obtain ⟨c0, c1, c2, c5, u, Bh, rfl, -, -, -, -, ou⟩ := id hH2
  have oneu := ou.one
  have hi0 : Hid (∀ w', Ext w2 w' → HouV w' (.agg (siteW c0 c1 c2 c5 u).toArray) 2) := fun w' hx => hH2.ext hx
  obtain ⟨p1, p2, p3, p4, rfl, kp1, -, -, -⟩ := id hP2
  have hi1 : Hid (∀ w', Ext w2 w' → TwoV w' (.agg #[.slice (some ⟨p1, 0, none⟩) 4 4, .slice (some ⟨p4, 0, none⟩) 4 4])) := fun w' hx => hP2.ext hx
  have hkp1 : Hid (Blk w2 p1 71 stepsC4) := kp1
  clear hH1 hH2 hP2 kp1
  unfold siteW
  (repeat' ((fail_if_success (with_reducible first | refine stop_h ?_ | refine stop_c ?_ | refine stop_s ?_ | refine stop_i ?_ | refine stop_l ?_ | refine stop_m ?_ | refine stop_o ?_ | refine stop_n ?_ | refine stop_e ?_ | refine stop_b ?_)); first
    | with_reducible first | exact ⟨⟩ | (refine gB ?_; intros) | refine gT ?_ ?_
    | refine gs ?_
    | refine sx ?_))
  rename_i bh w3 n3 k3 s3 q3 bp w4 n4 k4 s4 q4 w5 n5 k5 s5 w6 n6 k6 s6 e0 w7 n7 k7 s7 q7 l0 e1 w8 n8 k8 s8 q8 l1 e2 w9 n9 k9 s9 q9 l2 e3 w10 n10 k10 s10 q10 l3 e4 w11 n11 k11 s11 q11 l4 e5 w12 n12 k12 s12 q12 l5 e6 w13 n13 k13 s13 q13 l6 eb w14 n14 k14 s14 q14 l7 ee w15 n15 k15 s15 q15 l8 ew w16 n16 k16 s16 q16
  have I0 : Hid (KnC c0 c1 c2 c5 u p1 p4 bh bp e0 e1 e2 e3 e4 e5 e6 eb ee ew w16) := by
    have hx2 : Ext w2 w16 := FR
    have a1 : Blk w16 bh 29 _ := k5.2.1 _ FR
    have a2 : Blk w16 bp 33 _ := k6.2.1 _ FR
    have b0 : Blk w16 e0 3 _ := k7.2.1 _ FR
    have b1 : Blk w16 e1 3 _ := k8.2.1 _ FR
    have b2 : Blk w16 e2 3 _ := k9.2.1 _ FR
    have b3 : Blk w16 e3 3 _ := k10.2.1 _ FR
    have b4 : Blk w16 e4 3 _ := k11.2.1 _ FR
    have b5 : Blk w16 e5 3 _ := k12.2.1 _ FR
    have b6 : Blk w16 e6 3 _ := k13.2.1 _ FR
    have d1 : Blk w16 eb 39 _ := k14.2.1 _ FR
    have d2 : Blk w16 ee 3 _ := k15.2.1 _ FR
    have d3 : Blk w16 ew 60 _ := k16.2.1 _ k16.2.2.1
    exact ⟨hi0.out _ hx2, hi1.out _ hx2, hkp1.out.ext hx2, a1, a2, b0, b1, b2, b3, b4, b5, b6, d1, d2, d3⟩
  have hx16 : Hid (Ext w w16) := show Ext w w16 by exact FR
  have hxa : Ext w w16 := hx16.out
  clear n1 n2 n3 n4 n5 n6 n7 n8 n9 n10 n11 n12 n13 n14 n15 k3 k4 k5 k6 k7 k8 k9 k10 k11 k12 k13 k14 k15 k16 s1 s2 s3 s4 s5 s6 s7 s8 s9 s10 s11 s12 s13 s14 s15 s16 q3 q4 q7 q8 q9 q10 q11 q12 q13 q14 q15 q16 l0 l1 l2 l3 l4 l5 l6 l7 l8 hi0 hi1 hkp1 ou r1 r2
  have s16 := hxa.st
  have r16 := Ext.refl w16
  refine call_k (law23terms (n := 4) (blast := 0) (by decide)) ?_
  rintro _ w3 n3 s3 ⟨c7, av, B7, rfl, kc7, ho7, hc7⟩
  have hone7 := ho7.one
  have r3 := Ext.refl w3
  (repeat' ((fail_if_success (with_reducible first | refine stop_h ?_ | refine stop_c ?_ | refine stop_s ?_ | refine stop_i ?_ | refine stop_l ?_ | refine stop_m ?_ | refine stop_o ?_ | refine stop_n ?_ | refine stop_e ?_ | refine stop_b ?_)); first
    | with_reducible first | exact ⟨⟩ | (refine gB ?_; intros) | refine gT ?_ ?_
    | refine gs ?_
    | refine sx ?_))
  rename_i bx w4 n4 k4 s4 q4 w5 n5 k5 s5 bw w6 n6 k6 s6 q6
  have q36 : ¬ bw = bx := by have h1 := (show Blk w5 bx _ _ from k5.2.1 _ k5.2.2.1).lt; have h2 := (show w5.heap.size ≤ bw from FR); omega
  refine st_one (i := 0) KR (by simp) rfl fun wk nk kk sk => ?_
  simp only [List.set_cons_zero] at kk
  have kbw : Blk wk bw 79 [.int .u8 1, .int .i64 1, .int .i64 0, .int .i64 6, .int .u8 3, .int .i64 1, .int .i64 4, .int .i64 9, .int .u8 2, .int .i64 1, .int .i64 9, .int .i64 13] := k6.2.1 _ FR
  have hx3 : Ext w3 wk := FR
  have X0 : Hid (KnX bx bw c7 B7 av wk) := ⟨kk.2.1 _ kk.2.2.1, kbw, kc7.ext hx3, ho7.ext hx3⟩
  have hx16k : Ext w16 wk := FR
  have I1 : Hid (KnC c0 c1 c2 c5 u p1 p4 bh bp e0 e1 e2 e3 e4 e5 e6 eb ee ew wk) := I0.out.ext hx16k
  have hxk : Hid (Ext w wk) := hxa.trans hx16k
  have rk : Ext wk wk := Ext.refl wk
  clear n16 n3 n4 n5 n6 hone7 hc7 I0 hx16 k4 k5 k6 kk s3 s4 s5 s6 sk q4 q6 kbw kc7 ho7 hx3 r3 r16 s16 hxa hx16k
  (repeat' ((fail_if_success (with_reducible first | refine stop_h ?_ | refine stop_c ?_ | refine stop_s ?_ | refine stop_i ?_ | refine stop_l ?_ | refine stop_m ?_ | refine stop_o ?_ | refine stop_n ?_ | refine stop_e ?_ | refine stop_b ?_)); first
    | with_reducible first | exact ⟨⟩ | (refine gB ?_; intros) | refine gT ?_ ?_
    | refine gs ?_
    | refine sx ?_))
  refine loop_g 7 (fun g0 k g w' => g 7 = .int .i64 (k : Int) ∧ (g 1 = g0 1 ∧ g 2 = g0 2 ∧ g 3 = g0 3 ∧ g 4 = g0 4 ∧ g 5 = g0 5 ∧ g 6 = g0 6) ∧ Hid (Ext wk w')) KR ?_ ?_ ?_
  · exact ⟨rfl, ⟨rfl, rfl, rfl, rfl, rfl, rfl⟩, rk⟩
  · rintro k m g3 w3 hk3 hlt n3 ⟨hi3, hf3, hp3⟩
    simp (maxDischargeDepth := 3) only [U, ↓reduceIte, Nat.reduceEqDiff, *] at hf3
    have hx3 : Ext wk w3 := hp3.out
    have hxw3 : Ext w w3 := hxk.out.trans hx3
    have s3 := hxw3.st
    have r3 := Ext.refl w3
    have I3 := I1.out.ext hx3
    have X3 := X0.out.ext hx3
    have kh := I3.kh.bk
    have kp := I3.kp.bk
    have kb := I3.kb.bk
    have ke := I3.ke.bk
    have kw := I3.kw.bk
    have kx := X3.kx.bk
    have hone7 := X3.o7.one
    replace I3 : Hid (KnC c0 c1 c2 c5 u p1 p4 bh bp e0 e1 e2 e3 e4 e5 e6 eb ee ew w3) := I3
    replace X3 : Hid (KnX bx bw c7 B7 av w3) := X3
    have hw : IntKind.i64.wrap ((k : Int) + 1) = ((k + 1 : Nat) : Int) := by rw [wrap_i64_id] <;> omega
    clear hp3
    rcases (by omega : k = 0 ∨ k = 1 ∨ k = 2 ∨ k = 3 ∨ k = 4 ∨ k = 5 ∨ k = 6) with rfl | rfl | rfl | rfl | rfl | rfl | rfl
    · have hi3' : g3 7 = .int .i64 0 := hi3
      clear hi3
      have ht : Int.toNat 0 = 0 := rfl
      have h7 : (0 : Int) < ((7 : Nat) : Int) := by decide
      (repeat' ((fail_if_success (with_reducible first | refine stop_h ?_ | refine stop_c ?_ | refine stop_s ?_ | refine stop_i ?_ | refine stop_l ?_ | refine stop_m ?_ | refine stop_o ?_ | refine stop_n ?_ | refine stop_e ?_ | refine stop_b ?_)); first
    | ((with_reducible refine wpd_at 16 ?_); refine wpd_hold ?_)
    | with_reducible first | exact ⟨⟩ | (refine gB ?_; intros) | refine gT ?_ ?_
    | refine gs ?_
    | refine sx ?_))
      rename_i tb wA nA kA sA qA wB nB kB sB
      have hx3B : Ext w3 wB := FR
      have KB : Blk wB tb 41 [.slice (some ⟨bw, 0, none⟩) 3 3, .slice none 0 0, .int .i64 0, .slice none 0 0, .slice (some ⟨c7, 0, none⟩) 8 8, av, .int .i64 0, .int .i64 100] := kB.2.1 _ kB.2.2.1
      clear kA kB sA sB qA
      have hT : Hid (∀ w', Ext wB w' → TermsT w' w'.heap.size ⟨.slice (some ⟨bw, 0, none⟩) 3 3, .slice none 0 0, .slice none 0 0, .slice (some ⟨c7, 0, none⟩) 8 8, av⟩ (knTerms 0)) := fun w' hx' => (X3.out.ext (hx3B.trans hx')).terms (n := 0) (by decide)
      have IB := I3.out.ext hx3B
      have hK : Hid (∀ w', Ext wB w' → Ret Tryz.prog 15 #[.agg #[.slice (some ⟨c0, 0, none⟩) 1 1, .slice (some ⟨c1, 0, none⟩) 1 1, .slice (some ⟨c2, 0, none⟩) 1 1, .slice (some ⟨c5, 0, none⟩) 2 2, .int .i64 1, .slice none 0 0, u], .agg #[.slice (some ⟨p1, 0, none⟩) 4 4, .slice (some ⟨p4, 0, none⟩) 4 4], .agg #[.slice (some ⟨bw, 0, none⟩) 3 3, .slice none 0 0, .int .i64 0, .slice none 0 0, .slice (some ⟨c7, 0, none⟩) 8 8, av, .int .i64 0, .int .i64 100], .agg #[.slice (some ⟨e0, 0, none⟩) 4 4, .int .i64 101]] w' (.tuple #[.agg #[.int .u8 1, .int .i64 3, .int .i64 0], .int .i64 13])) := fun w' hx' => plan_check (IB.h.ext hx') (IB.p.ext hx') (hT.out _ hx') (row_sl (l := (knBeg 0).map intV) (IB.k0.ext hx') rfl (by simp [knBeg])) kn_check0
      clear IB hT
      have s3B := hx3B.st
      have kc := KB.bk
      have m0 := kh.2.2.2
      have rB := Ext.refl wB
      have nwB : Now wB := trivial
      unfold wpdH
      refine wpd_relS 18 [(17, 16)] (fun iI s v w9 => match iI with
        | 0 => v = .agg #[.slice (some ⟨c0, 0, none⟩) 1 1, .slice (some ⟨c1, 0, none⟩) 1 1, .slice (some ⟨c2, 0, none⟩) 1 1, .slice (some ⟨c5, 0, none⟩) 2 2, .int .i64 1, .slice none 0 0, u]
        | 1 => v = .agg #[.slice (some ⟨p1, 0, none⟩) 4 4, .slice (some ⟨p4, 0, none⟩) 4 4]
        | 2 => v = .agg #[.slice (some ⟨bw, 0, none⟩) 3 3, .slice none 0 0, .int .i64 0, .slice none 0 0, .slice (some ⟨c7, 0, none⟩) 8 8, av, .int .i64 0, .int .i64 100]
        | 3 => v = .slice (some ⟨eb, 0, none⟩) 7 7
        | 4 => v = .int .i64 0
        | 5 => v = .pointer (some ⟨eb, 0, none⟩)
        | 6 => v = .slice (some ⟨e0, 0, none⟩) 4 4
        | 7 => v = .slice (some ⟨ee, 0, none⟩) 7 7
        | 8 => v = .int .i64 0
        | 9 => v = .pointer (some ⟨ee, 0, none⟩)
        | 10 => v = .int .i64 101
        | 11 => v = .agg #[.slice (some ⟨e0, 0, none⟩) 4 4, .int .i64 101]
        | 12 => v = .tuple #[.agg #[.int .u8 1, .int .i64 3, .int .i64 0], .int .i64 13]
        | 13 => v = .tuple #[.agg #[.int .u8 1, .int .i64 3, .int .i64 0], .int .i64 13]
        | 14 => v = .agg #[.int .u8 1, .int .i64 3, .int .i64 0]
        | 15 => v = .int .i64 13
        | 16 => ∃ b, v = .pointer (some ⟨b, 0, none⟩) ∧ wB.heap.size ≤ b ∧ (s = false → Blk w9 b 60 [.int .u8 0, .int .i64 0, .int .i64 0]) ∧ (s = true → Blk w9 b 60 [.int .u8 1, .int .i64 3, .int .i64 0])
        | 17 => True
        | _ => False) KR KR KR KR ?_ ?_ ?_
      · intro iI s v w1 w2 hR hx9
        match iI, hR with
        | 0, h => exact h
        | 1, h => exact h
        | 2, h => exact h
        | 3, h => exact h
        | 4, h => exact h
        | 5, h => exact h
        | 6, h => exact h
        | 7, h => exact h
        | 8, h => exact h
        | 9, h => exact h
        | 10, h => exact h
        | 11, h => exact h
        | 12, h => exact h
        | 13, h => exact h
        | 14, h => exact h
        | 15, h => exact h
        | 16, ⟨b, e, h1, h2, h3⟩ => exact ⟨b, e, h1, fun hs => (h2 hs).ext hx9, fun hs => (fun h => (h.ext hx9)) (h3 hs)⟩
        | 17, h => exact h
      · intro iI oO hi ho gF w9 S9 hx9 hdep hag
        have s9 := hx9.st
        have n9 : Now w9 := trivial
        have r9 := Ext.refl w9
        have z9 := hx9.size
        rcases iI with _|_|_|_|_|_|_|_|_|_|_|_|_|_|_|_|_|_|iI
        have e := Option.some.inj ho
        subst e
        have a1 := hag.at 1 KR
        simp only [S5, ↓reduceIte, Nat.reduceEqDiff, initF, *] at a1
        clear hag hdep ho
        refine ⟨fun _ => ?_, fun a9 pa da hal => by simp [alL] at hal⟩
        refine relStep_off rfl ?_
        rotate_left
        have e := Option.some.inj ho
        subst e
        have a2 := hag.at 2 KR
        simp only [S5, ↓reduceIte, Nat.reduceEqDiff, initF, *] at a2
        clear hag hdep ho
        refine ⟨fun _ => ?_, fun a9 pa da hal => by simp [alL] at hal⟩
        refine relStep_off rfl ?_
        rotate_left
        have e := Option.some.inj ho
        subst e
        have a8 := hag.at 8 KR
        simp only [S5, ↓reduceIte, Nat.reduceEqDiff, initF, *] at a8
        clear hag hdep ho
        refine ⟨fun _ => ?_, fun a9 pa da hal => by simp [alL] at hal⟩
        refine relStep_off rfl ?_
        rotate_left
        have e := Option.some.inj ho
        subst e
        have a3 := hag.at 3 KR
        simp only [S5, ↓reduceIte, Nat.reduceEqDiff, initF, *] at a3
        clear hag hdep ho
        refine ⟨fun _ => ?_, fun a9 pa da hal => by simp [alL] at hal⟩
        refine relStep_off rfl ?_
        rotate_left
        have e := Option.some.inj ho
        subst e
        have a7 := hag.at 7 KR
        simp only [S5, ↓reduceIte, Nat.reduceEqDiff, initF, *] at a7
        clear hag hdep ho
        refine ⟨fun _ => ?_, fun a9 pa da hal => by simp [alL] at hal⟩
        refine relStep_off rfl ?_
        rotate_left
        have e := Option.some.inj ho
        subst e
        have d3 : (gF 86) = .slice (some ⟨eb, 0, none⟩) 7 7 := hdep ⟨3, .data⟩ (by simp) rfl _ _ rfl rfl
        have d4 : (gF 87) = .int .i64 0 := hdep ⟨4, .data⟩ (by simp) rfl _ _ rfl rfl
        clear hag hdep ho
        refine ⟨fun _ => ?_, fun a9 pa da hal => by simp [alL] at hal⟩
        refine relStep_off rfl ?_
        rotate_left
        have e := Option.some.inj ho
        subst e
        have d5 : (gF 88) = .pointer (some ⟨eb, 0, none⟩) := hdep ⟨5, .data⟩ (by simp) rfl _ _ rfl rfl
        clear hag hdep ho
        refine ⟨fun _ => ?_, fun a9 pa da hal => by simp [alL] at hal⟩
        refine relStep_off rfl ?_
        rotate_left
        have e := Option.some.inj ho
        subst e
        have a4 := hag.at 4 KR
        simp only [S5, ↓reduceIte, Nat.reduceEqDiff, initF, *] at a4
        clear hag hdep ho
        refine ⟨fun _ => ?_, fun a9 pa da hal => by simp [alL] at hal⟩
        refine relStep_off rfl ?_
        rotate_left
        have e := Option.some.inj ho
        subst e
        have a7 := hag.at 7 KR
        simp only [S5, ↓reduceIte, Nat.reduceEqDiff, initF, *] at a7
        clear hag hdep ho
        refine ⟨fun _ => ?_, fun a9 pa da hal => by simp [alL] at hal⟩
        refine relStep_off rfl ?_
        rotate_left
        have e := Option.some.inj ho
        subst e
        have d7 : (gF 90) = .slice (some ⟨ee, 0, none⟩) 7 7 := hdep ⟨7, .data⟩ (by simp) rfl _ _ rfl rfl
        have d8 : (gF 91) = .int .i64 0 := hdep ⟨8, .data⟩ (by simp) rfl _ _ rfl rfl
        clear hag hdep ho
        refine ⟨fun _ => ?_, fun a9 pa da hal => by simp [alL] at hal⟩
        refine relStep_off rfl ?_
        rotate_left
        have e := Option.some.inj ho
        subst e
        have d9 : (gF 92) = .pointer (some ⟨ee, 0, none⟩) := hdep ⟨9, .data⟩ (by simp) rfl _ _ rfl rfl
        clear hag hdep ho
        refine ⟨fun _ => ?_, fun a9 pa da hal => by simp [alL] at hal⟩
        refine relStep_off rfl ?_
        rotate_left
        have e := Option.some.inj ho
        subst e
        have d6 : (gF 89) = .slice (some ⟨e0, 0, none⟩) 4 4 := hdep ⟨6, .data⟩ (by simp) rfl _ _ rfl rfl
        have d10 : (gF 93) = .int .i64 101 := hdep ⟨10, .data⟩ (by simp) rfl _ _ rfl rfl
        clear hag hdep ho
        refine ⟨fun _ => ?_, fun a9 pa da hal => by simp [alL] at hal⟩
        refine relStep_off rfl ?_
        rotate_left
        have e := Option.some.inj ho
        subst e
        have d0 : (gF 83) = .agg #[.slice (some ⟨c0, 0, none⟩) 1 1, .slice (some ⟨c1, 0, none⟩) 1 1, .slice (some ⟨c2, 0, none⟩) 1 1, .slice (some ⟨c5, 0, none⟩) 2 2, .int .i64 1, .slice none 0 0, u] := hdep ⟨0, .data⟩ (by simp) rfl _ _ rfl rfl
        have d1 : (gF 84) = .agg #[.slice (some ⟨p1, 0, none⟩) 4 4, .slice (some ⟨p4, 0, none⟩) 4 4] := hdep ⟨1, .data⟩ (by simp) rfl _ _ rfl rfl
        have d2 : (gF 85) = .agg #[.slice (some ⟨bw, 0, none⟩) 3 3, .slice none 0 0, .int .i64 0, .slice none 0 0, .slice (some ⟨c7, 0, none⟩) 8 8, av, .int .i64 0, .int .i64 100] := hdep ⟨2, .data⟩ (by simp) rfl _ _ rfl rfl
        have d11 : (gF 94) = .agg #[.slice (some ⟨e0, 0, none⟩) 4 4, .int .i64 101] := hdep ⟨11, .data⟩ (by simp) rfl _ _ rfl rfl
        clear hag hdep ho
        refine ⟨fun _ => ?_, fun a9 pa da hal => by simp [alL] at hal⟩
        refine relStep_off rfl ?_
        rotate_left
        have e := Option.some.inj ho
        subst e
        have d12 : (gF 95) = .tuple #[.agg #[.int .u8 1, .int .i64 3, .int .i64 0], .int .i64 13] := hdep ⟨12, .data⟩ (by simp) rfl _ _ rfl rfl
        clear hag hdep ho
        refine ⟨fun _ => ?_, fun a9 pa da hal => by simp [alL] at hal⟩
        refine relStep_off rfl ?_
        rotate_left
        have e := Option.some.inj ho
        subst e
        have d13 : (gF 82) = .tuple #[.agg #[.int .u8 1, .int .i64 3, .int .i64 0], .int .i64 13] := hdep ⟨13, .data⟩ (by simp) rfl _ _ rfl rfl
        clear hag hdep ho
        refine ⟨fun _ => ?_, fun a9 pa da hal => by simp [alL] at hal⟩
        refine relStep_off rfl ?_
        rotate_left
        have e := Option.some.inj ho
        subst e
        have d13 : (gF 82) = .tuple #[.agg #[.int .u8 1, .int .i64 3, .int .i64 0], .int .i64 13] := hdep ⟨13, .data⟩ (by simp) rfl _ _ rfl rfl
        clear hag hdep ho
        refine ⟨fun _ => ?_, fun a9 pa da hal => by simp [alL] at hal⟩
        refine relStep_off rfl ?_
        rotate_left
        have e := Option.some.inj ho
        subst e
        clear hag hdep ho
        refine ⟨fun _ => ?_, fun a9 pa da hal => by simp [alL] at hal⟩
        refine relStep_off rfl ?_
        rotate_left
        have e := Option.some.inj ho
        subst e
        have d16 : ∃ b, (gF 9) = .pointer (some ⟨b, 0, none⟩) ∧ wB.heap.size ≤ b ∧ ((S9 16) = false → Blk w9 b 60 [.int .u8 0, .int .i64 0, .int .i64 0]) ∧ ((S9 16) = true → Blk w9 b 60 [.int .u8 1, .int .i64 3, .int .i64 0]) := hdep ⟨16, .data⟩ (by simp) rfl _ _ rfl rfl
        obtain ⟨b16, e16, q16, hz16, _⟩ := d16
        have d14 : (gF 96) = .agg #[.int .u8 1, .int .i64 3, .int .i64 0] := hdep ⟨14, .data⟩ (by simp) rfl _ _ rfl rfl
        clear hag hdep ho
        refine ⟨fun h => by simp [alL] at h, fun a9 pa da hal hS9 hpa hda => ?_⟩
        obtain rfl : 16 = a9 := by simpa [alL] using hal
        obtain rfl := Option.some.inj hpa
        obtain rfl := Option.some.inj hda
        have hz := hz16 hS9
        clear hal hpa hda hz16
        refine relStep_off rfl ?_
        rotate_left
        · omega
        all_goals (repeat' ((fail_if_success (with_reducible first | refine stop_h ?_ | refine stop_c ?_ | refine stop_s ?_ | refine stop_i ?_ | refine stop_l ?_ | refine stop_m ?_ | refine stop_o ?_ | refine stop_n ?_ | refine stop_e ?_ | refine stop_b ?_)); first
    | with_reducible first | exact ⟨⟩ | (refine gB ?_; intros) | refine gT ?_ ?_
    | refine gs ?_
    | refine sx ?_))
        all_goals first
          | (refine CallsV.mono (hK.out _ hx9) fun v w10 hh => ⟨hh.2, hh.1⟩)
          | (rename_i b10 w10 n10 k10 s10 q10; exact ⟨_, rfl, FR, fun _ => k10.2.1 _ k10.2.2.1, fun h => absurd h (by decide)⟩)
          | (
              refine stT_agg (w0 := w9) (vs := [.int .u8 1, .int .i64 3, .int .i64 0]) hz rfl KR rfl (by simp [one_int, Value.oneCell']) fun w10 hb10 hc => ⟨b16, hc, q16, ⟨b16, (by first | exact e16 | rfl), q16, fun h => absurd h (by decide), fun _ => hb10⟩, ?_⟩
              intro iI s v hne hR
              match iI, hR with
              | 0, h | 1, h | 2, h | 3, h | 4, h | 5, h | 6, h | 7, h | 8, h | 9, h | 10, h | 11, h | 13, h | 14, h | 15, h | 17, h => exact h
              | 12, h => exact h
              | 16, _ => exact absurd rfl hne)
      · intro g9 w9 hx9 hR hag
        have s9 := hx9.st
        have n9 : Now w9 := trivial
        have r9 := Ext.refl w9
        have z9 := hx9.size
        have d15 : (g9 97) = .int .i64 13 := hR 15 _ _ (by decide) rfl rfl
        have d16 : ∃ b, (g9 9) = .pointer (some ⟨b, 0, none⟩) ∧ wB.heap.size ≤ b ∧ (true = false → Blk w9 b 60 [.int .u8 0, .int .i64 0, .int .i64 0]) ∧ (true = true → Blk w9 b 60 [.int .u8 1, .int .i64 3, .int .i64 0]) := hR 16 _ _ (by decide) rfl rfl
        obtain ⟨b16, e16, q16, _, f16⟩ := d16
        replace f16 := f16 rfl
        have nw16 := Nw.of q16
        have K11 := f16.bk
        have a1 := hag.at 1 KR
        have a2 := hag.at 2 KR
        have a3 := hag.at 3 KR
        have a4 := hag.at 4 KR
        have a5 := hag.at 5 KR
        have a6 := hag.at 6 KR
        have a7 := hag.at 7 KR
        simp only [S5, ↓reduceIte, Nat.reduceEqDiff, initF, *] at a1 a2 a3 a4 a5 a6 a7
        clear hag hR
        simp only [List.drop_succ_cons, List.drop_zero]
        have hxk9 : Hid (Ext wk w9) := hx3.trans (hx3B.trans hx9)
        clear hK KB
        (repeat' ((fail_if_success (with_reducible first | refine stop_h ?_ | refine stop_c ?_ | refine stop_s ?_ | refine stop_i ?_ | refine stop_l ?_ | refine stop_m ?_ | refine stop_o ?_ | refine stop_n ?_ | refine stop_e ?_ | refine stop_b ?_)); first
    | with_reducible first | exact ⟨⟩ | (refine gB ?_; intros) | refine gT ?_ ?_
    | refine gs ?_
    | refine sx ?_))
        refine next_g hk3 hlt ?_
        (repeat' ((fail_if_success (with_reducible first | refine stop_h ?_ | refine stop_c ?_ | refine stop_s ?_ | refine stop_i ?_ | refine stop_l ?_ | refine stop_m ?_ | refine stop_o ?_ | refine stop_n ?_ | refine stop_e ?_ | refine stop_b ?_)); first
    | with_reducible first | exact ⟨⟩ | (refine gB ?_; intros) | refine gT ?_ ?_
    | refine gs ?_
    | refine sx ?_))
        all_goals exact ⟨rfl, trivial⟩
    · have hi3' : g3 7 = .int .i64 1 := hi3
      clear hi3
      have ht : Int.toNat 1 = 1 := rfl
      have h7 : (1 : Int) < ((7 : Nat) : Int) := by decide
      (repeat' ((fail_if_success (with_reducible first | refine stop_h ?_ | refine stop_c ?_ | refine stop_s ?_ | refine stop_i ?_ | refine stop_l ?_ | refine stop_m ?_ | refine stop_o ?_ | refine stop_n ?_ | refine stop_e ?_ | refine stop_b ?_)); first
    | ((with_reducible refine wpd_at 16 ?_); refine wpd_hold ?_)
    | with_reducible first | exact ⟨⟩ | (refine gB ?_; intros) | refine gT ?_ ?_
    | refine gs ?_
    | refine sx ?_))
      rename_i tb wA nA kA sA qA wB nB kB sB
      have hx3B : Ext w3 wB := FR
      have KB : Blk wB tb 41 [.slice (some ⟨bw, 0, none⟩) 3 3, .slice none 0 0, .int .i64 0, .slice none 0 0, .slice (some ⟨c7, 0, none⟩) 8 8, av, .int .i64 0, .int .i64 100] := kB.2.1 _ kB.2.2.1
      clear kA kB sA sB qA
      have hT : Hid (∀ w', Ext wB w' → TermsT w' w'.heap.size ⟨.slice (some ⟨bw, 0, none⟩) 3 3, .slice none 0 0, .slice none 0 0, .slice (some ⟨c7, 0, none⟩) 8 8, av⟩ (knTerms 1)) := fun w' hx' => (X3.out.ext (hx3B.trans hx')).terms (n := 1) (by decide)
      have IB := I3.out.ext hx3B
      have hK : Hid (∀ w', Ext wB w' → Ret Tryz.prog 15 #[.agg #[.slice (some ⟨c0, 0, none⟩) 1 1, .slice (some ⟨c1, 0, none⟩) 1 1, .slice (some ⟨c2, 0, none⟩) 1 1, .slice (some ⟨c5, 0, none⟩) 2 2, .int .i64 1, .slice none 0 0, u], .agg #[.slice (some ⟨p1, 0, none⟩) 4 4, .slice (some ⟨p4, 0, none⟩) 4 4], .agg #[.slice (some ⟨bw, 0, none⟩) 3 3, .slice none 0 0, .int .i64 0, .slice none 0 0, .slice (some ⟨c7, 0, none⟩) 8 8, av, .int .i64 0, .int .i64 100], .agg #[.slice (some ⟨e1, 0, none⟩) 4 4, .int .i64 4]] w' (.tuple #[.agg #[.int .u8 2, .int .i64 1, .int .i64 0], .int .i64 13])) := fun w' hx' => plan_check (IB.h.ext hx') (IB.p.ext hx') (hT.out _ hx') (row_sl (l := (knBeg 1).map intV) (IB.k1.ext hx') rfl (by simp [knBeg])) kn_check1
      clear IB hT
      have s3B := hx3B.st
      have kc := KB.bk
      have m0 := kh.2.2.2
      have rB := Ext.refl wB
      have nwB : Now wB := trivial
      unfold wpdH
      refine wpd_relS 18 [(17, 16)] (fun iI s v w9 => match iI with
        | 0 => v = .agg #[.slice (some ⟨c0, 0, none⟩) 1 1, .slice (some ⟨c1, 0, none⟩) 1 1, .slice (some ⟨c2, 0, none⟩) 1 1, .slice (some ⟨c5, 0, none⟩) 2 2, .int .i64 1, .slice none 0 0, u]
        | 1 => v = .agg #[.slice (some ⟨p1, 0, none⟩) 4 4, .slice (some ⟨p4, 0, none⟩) 4 4]
        | 2 => v = .agg #[.slice (some ⟨bw, 0, none⟩) 3 3, .slice none 0 0, .int .i64 0, .slice none 0 0, .slice (some ⟨c7, 0, none⟩) 8 8, av, .int .i64 0, .int .i64 100]
        | 3 => v = .slice (some ⟨eb, 0, none⟩) 7 7
        | 4 => v = .int .i64 1
        | 5 => v = .pointer (some ⟨eb, 1, none⟩)
        | 6 => v = .slice (some ⟨e1, 0, none⟩) 4 4
        | 7 => v = .slice (some ⟨ee, 0, none⟩) 7 7
        | 8 => v = .int .i64 1
        | 9 => v = .pointer (some ⟨ee, 1, none⟩)
        | 10 => v = .int .i64 4
        | 11 => v = .agg #[.slice (some ⟨e1, 0, none⟩) 4 4, .int .i64 4]
        | 12 => v = .tuple #[.agg #[.int .u8 2, .int .i64 1, .int .i64 0], .int .i64 13]
        | 13 => v = .tuple #[.agg #[.int .u8 2, .int .i64 1, .int .i64 0], .int .i64 13]
        | 14 => v = .agg #[.int .u8 2, .int .i64 1, .int .i64 0]
        | 15 => v = .int .i64 13
        | 16 => ∃ b, v = .pointer (some ⟨b, 0, none⟩) ∧ wB.heap.size ≤ b ∧ (s = false → Blk w9 b 60 [.int .u8 0, .int .i64 0, .int .i64 0]) ∧ (s = true → Blk w9 b 60 [.int .u8 2, .int .i64 1, .int .i64 0])
        | 17 => True
        | _ => False) KR KR KR KR ?_ ?_ ?_
      · intro iI s v w1 w2 hR hx9
        match iI, hR with
        | 0, h => exact h
        | 1, h => exact h
        | 2, h => exact h
        | 3, h => exact h
        | 4, h => exact h
        | 5, h => exact h
        | 6, h => exact h
        | 7, h => exact h
        | 8, h => exact h
        | 9, h => exact h
        | 10, h => exact h
        | 11, h => exact h
        | 12, h => exact h
        | 13, h => exact h
        | 14, h => exact h
        | 15, h => exact h
        | 16, ⟨b, e, h1, h2, h3⟩ => exact ⟨b, e, h1, fun hs => (h2 hs).ext hx9, fun hs => (fun h => (h.ext hx9)) (h3 hs)⟩
        | 17, h => exact h
      · intro iI oO hi ho gF w9 S9 hx9 hdep hag
        have s9 := hx9.st
        have n9 : Now w9 := trivial
        have r9 := Ext.refl w9
        have z9 := hx9.size
        rcases iI with _|_|_|_|_|_|_|_|_|_|_|_|_|_|_|_|_|_|iI
        have e := Option.some.inj ho
        subst e
        have a1 := hag.at 1 KR
        simp only [S5, ↓reduceIte, Nat.reduceEqDiff, initF, *] at a1
        clear hag hdep ho
        refine ⟨fun _ => ?_, fun a9 pa da hal => by simp [alL] at hal⟩
        refine relStep_off rfl ?_
        rotate_left
        have e := Option.some.inj ho
        subst e
        have a2 := hag.at 2 KR
        simp only [S5, ↓reduceIte, Nat.reduceEqDiff, initF, *] at a2
        clear hag hdep ho
        refine ⟨fun _ => ?_, fun a9 pa da hal => by simp [alL] at hal⟩
        refine relStep_off rfl ?_
        rotate_left
        have e := Option.some.inj ho
        subst e
        have a8 := hag.at 8 KR
        simp only [S5, ↓reduceIte, Nat.reduceEqDiff, initF, *] at a8
        clear hag hdep ho
        refine ⟨fun _ => ?_, fun a9 pa da hal => by simp [alL] at hal⟩
        refine relStep_off rfl ?_
        rotate_left
        have e := Option.some.inj ho
        subst e
        have a3 := hag.at 3 KR
        simp only [S5, ↓reduceIte, Nat.reduceEqDiff, initF, *] at a3
        clear hag hdep ho
        refine ⟨fun _ => ?_, fun a9 pa da hal => by simp [alL] at hal⟩
        refine relStep_off rfl ?_
        rotate_left
        have e := Option.some.inj ho
        subst e
        have a7 := hag.at 7 KR
        simp only [S5, ↓reduceIte, Nat.reduceEqDiff, initF, *] at a7
        clear hag hdep ho
        refine ⟨fun _ => ?_, fun a9 pa da hal => by simp [alL] at hal⟩
        refine relStep_off rfl ?_
        rotate_left
        have e := Option.some.inj ho
        subst e
        have d3 : (gF 86) = .slice (some ⟨eb, 0, none⟩) 7 7 := hdep ⟨3, .data⟩ (by simp) rfl _ _ rfl rfl
        have d4 : (gF 87) = .int .i64 1 := hdep ⟨4, .data⟩ (by simp) rfl _ _ rfl rfl
        clear hag hdep ho
        refine ⟨fun _ => ?_, fun a9 pa da hal => by simp [alL] at hal⟩
        refine relStep_off rfl ?_
        rotate_left
        have e := Option.some.inj ho
        subst e
        have d5 : (gF 88) = .pointer (some ⟨eb, 1, none⟩) := hdep ⟨5, .data⟩ (by simp) rfl _ _ rfl rfl
        clear hag hdep ho
        refine ⟨fun _ => ?_, fun a9 pa da hal => by simp [alL] at hal⟩
        refine relStep_off rfl ?_
        rotate_left
        have e := Option.some.inj ho
        subst e
        have a4 := hag.at 4 KR
        simp only [S5, ↓reduceIte, Nat.reduceEqDiff, initF, *] at a4
        clear hag hdep ho
        refine ⟨fun _ => ?_, fun a9 pa da hal => by simp [alL] at hal⟩
        refine relStep_off rfl ?_
        rotate_left
        have e := Option.some.inj ho
        subst e
        have a7 := hag.at 7 KR
        simp only [S5, ↓reduceIte, Nat.reduceEqDiff, initF, *] at a7
        clear hag hdep ho
        refine ⟨fun _ => ?_, fun a9 pa da hal => by simp [alL] at hal⟩
        refine relStep_off rfl ?_
        rotate_left
        have e := Option.some.inj ho
        subst e
        have d7 : (gF 90) = .slice (some ⟨ee, 0, none⟩) 7 7 := hdep ⟨7, .data⟩ (by simp) rfl _ _ rfl rfl
        have d8 : (gF 91) = .int .i64 1 := hdep ⟨8, .data⟩ (by simp) rfl _ _ rfl rfl
        clear hag hdep ho
        refine ⟨fun _ => ?_, fun a9 pa da hal => by simp [alL] at hal⟩
        refine relStep_off rfl ?_
        rotate_left
        have e := Option.some.inj ho
        subst e
        have d9 : (gF 92) = .pointer (some ⟨ee, 1, none⟩) := hdep ⟨9, .data⟩ (by simp) rfl _ _ rfl rfl
        clear hag hdep ho
        refine ⟨fun _ => ?_, fun a9 pa da hal => by simp [alL] at hal⟩
        refine relStep_off rfl ?_
        rotate_left
        have e := Option.some.inj ho
        subst e
        have d6 : (gF 89) = .slice (some ⟨e1, 0, none⟩) 4 4 := hdep ⟨6, .data⟩ (by simp) rfl _ _ rfl rfl
        have d10 : (gF 93) = .int .i64 4 := hdep ⟨10, .data⟩ (by simp) rfl _ _ rfl rfl
        clear hag hdep ho
        refine ⟨fun _ => ?_, fun a9 pa da hal => by simp [alL] at hal⟩
        refine relStep_off rfl ?_
        rotate_left
        have e := Option.some.inj ho
        subst e
        have d0 : (gF 83) = .agg #[.slice (some ⟨c0, 0, none⟩) 1 1, .slice (some ⟨c1, 0, none⟩) 1 1, .slice (some ⟨c2, 0, none⟩) 1 1, .slice (some ⟨c5, 0, none⟩) 2 2, .int .i64 1, .slice none 0 0, u] := hdep ⟨0, .data⟩ (by simp) rfl _ _ rfl rfl
        have d1 : (gF 84) = .agg #[.slice (some ⟨p1, 0, none⟩) 4 4, .slice (some ⟨p4, 0, none⟩) 4 4] := hdep ⟨1, .data⟩ (by simp) rfl _ _ rfl rfl
        have d2 : (gF 85) = .agg #[.slice (some ⟨bw, 0, none⟩) 3 3, .slice none 0 0, .int .i64 0, .slice none 0 0, .slice (some ⟨c7, 0, none⟩) 8 8, av, .int .i64 0, .int .i64 100] := hdep ⟨2, .data⟩ (by simp) rfl _ _ rfl rfl
        have d11 : (gF 94) = .agg #[.slice (some ⟨e1, 0, none⟩) 4 4, .int .i64 4] := hdep ⟨11, .data⟩ (by simp) rfl _ _ rfl rfl
        clear hag hdep ho
        refine ⟨fun _ => ?_, fun a9 pa da hal => by simp [alL] at hal⟩
        refine relStep_off rfl ?_
        rotate_left
        have e := Option.some.inj ho
        subst e
        have d12 : (gF 95) = .tuple #[.agg #[.int .u8 2, .int .i64 1, .int .i64 0], .int .i64 13] := hdep ⟨12, .data⟩ (by simp) rfl _ _ rfl rfl
        clear hag hdep ho
        refine ⟨fun _ => ?_, fun a9 pa da hal => by simp [alL] at hal⟩
        refine relStep_off rfl ?_
        rotate_left
        have e := Option.some.inj ho
        subst e
        have d13 : (gF 82) = .tuple #[.agg #[.int .u8 2, .int .i64 1, .int .i64 0], .int .i64 13] := hdep ⟨13, .data⟩ (by simp) rfl _ _ rfl rfl
        clear hag hdep ho
        refine ⟨fun _ => ?_, fun a9 pa da hal => by simp [alL] at hal⟩
        refine relStep_off rfl ?_
        rotate_left
        have e := Option.some.inj ho
        subst e
        have d13 : (gF 82) = .tuple #[.agg #[.int .u8 2, .int .i64 1, .int .i64 0], .int .i64 13] := hdep ⟨13, .data⟩ (by simp) rfl _ _ rfl rfl
        clear hag hdep ho
        refine ⟨fun _ => ?_, fun a9 pa da hal => by simp [alL] at hal⟩
        refine relStep_off rfl ?_
        rotate_left
        have e := Option.some.inj ho
        subst e
        clear hag hdep ho
        refine ⟨fun _ => ?_, fun a9 pa da hal => by simp [alL] at hal⟩
        refine relStep_off rfl ?_
        rotate_left
        have e := Option.some.inj ho
        subst e
        have d16 : ∃ b, (gF 9) = .pointer (some ⟨b, 0, none⟩) ∧ wB.heap.size ≤ b ∧ ((S9 16) = false → Blk w9 b 60 [.int .u8 0, .int .i64 0, .int .i64 0]) ∧ ((S9 16) = true → Blk w9 b 60 [.int .u8 2, .int .i64 1, .int .i64 0]) := hdep ⟨16, .data⟩ (by simp) rfl _ _ rfl rfl
        obtain ⟨b16, e16, q16, hz16, _⟩ := d16
        have d14 : (gF 96) = .agg #[.int .u8 2, .int .i64 1, .int .i64 0] := hdep ⟨14, .data⟩ (by simp) rfl _ _ rfl rfl
        clear hag hdep ho
        refine ⟨fun h => by simp [alL] at h, fun a9 pa da hal hS9 hpa hda => ?_⟩
        obtain rfl : 16 = a9 := by simpa [alL] using hal
        obtain rfl := Option.some.inj hpa
        obtain rfl := Option.some.inj hda
        have hz := hz16 hS9
        clear hal hpa hda hz16
        refine relStep_off rfl ?_
        rotate_left
        · omega
        all_goals (repeat' ((fail_if_success (with_reducible first | refine stop_h ?_ | refine stop_c ?_ | refine stop_s ?_ | refine stop_i ?_ | refine stop_l ?_ | refine stop_m ?_ | refine stop_o ?_ | refine stop_n ?_ | refine stop_e ?_ | refine stop_b ?_)); first
    | with_reducible first | exact ⟨⟩ | (refine gB ?_; intros) | refine gT ?_ ?_
    | refine gs ?_
    | refine sx ?_))
        all_goals first
          | (refine CallsV.mono (hK.out _ hx9) fun v w10 hh => ⟨hh.2, hh.1⟩)
          | (rename_i b10 w10 n10 k10 s10 q10; exact ⟨_, rfl, FR, fun _ => k10.2.1 _ k10.2.2.1, fun h => absurd h (by decide)⟩)
          | (
              refine stT_agg (w0 := w9) (vs := [.int .u8 2, .int .i64 1, .int .i64 0]) hz rfl KR rfl (by simp [one_int, Value.oneCell']) fun w10 hb10 hc => ⟨b16, hc, q16, ⟨b16, (by first | exact e16 | rfl), q16, fun h => absurd h (by decide), fun _ => hb10⟩, ?_⟩
              intro iI s v hne hR
              match iI, hR with
              | 0, h | 1, h | 2, h | 3, h | 4, h | 5, h | 6, h | 7, h | 8, h | 9, h | 10, h | 11, h | 13, h | 14, h | 15, h | 17, h => exact h
              | 12, h => exact h
              | 16, _ => exact absurd rfl hne)
      · intro g9 w9 hx9 hR hag
        have s9 := hx9.st
        have n9 : Now w9 := trivial
        have r9 := Ext.refl w9
        have z9 := hx9.size
        have d15 : (g9 97) = .int .i64 13 := hR 15 _ _ (by decide) rfl rfl
        have d16 : ∃ b, (g9 9) = .pointer (some ⟨b, 0, none⟩) ∧ wB.heap.size ≤ b ∧ (true = false → Blk w9 b 60 [.int .u8 0, .int .i64 0, .int .i64 0]) ∧ (true = true → Blk w9 b 60 [.int .u8 2, .int .i64 1, .int .i64 0]) := hR 16 _ _ (by decide) rfl rfl
        obtain ⟨b16, e16, q16, _, f16⟩ := d16
        replace f16 := f16 rfl
        have nw16 := Nw.of q16
        have K11 := f16.bk
        have a1 := hag.at 1 KR
        have a2 := hag.at 2 KR
        have a3 := hag.at 3 KR
        have a4 := hag.at 4 KR
        have a5 := hag.at 5 KR
        have a6 := hag.at 6 KR
        have a7 := hag.at 7 KR
        simp only [S5, ↓reduceIte, Nat.reduceEqDiff, initF, *] at a1 a2 a3 a4 a5 a6 a7
        clear hag hR
        simp only [List.drop_succ_cons, List.drop_zero]
        have hxk9 : Hid (Ext wk w9) := hx3.trans (hx3B.trans hx9)
        clear hK KB
        (repeat' ((fail_if_success (with_reducible first | refine stop_h ?_ | refine stop_c ?_ | refine stop_s ?_ | refine stop_i ?_ | refine stop_l ?_ | refine stop_m ?_ | refine stop_o ?_ | refine stop_n ?_ | refine stop_e ?_ | refine stop_b ?_)); first
    | with_reducible first | exact ⟨⟩ | (refine gB ?_; intros) | refine gT ?_ ?_
    | refine gs ?_
    | refine sx ?_))
        refine next_g hk3 hlt ?_
        (repeat' ((fail_if_success (with_reducible first | refine stop_h ?_ | refine stop_c ?_ | refine stop_s ?_ | refine stop_i ?_ | refine stop_l ?_ | refine stop_m ?_ | refine stop_o ?_ | refine stop_n ?_ | refine stop_e ?_ | refine stop_b ?_)); first
    | with_reducible first | exact ⟨⟩ | (refine gB ?_; intros) | refine gT ?_ ?_
    | refine gs ?_
    | refine sx ?_))
        all_goals exact ⟨rfl, trivial⟩
    · have hi3' : g3 7 = .int .i64 2 := hi3
      clear hi3
      have ht : Int.toNat 2 = 2 := rfl
      have h7 : (2 : Int) < ((7 : Nat) : Int) := by decide
      (repeat' ((fail_if_success (with_reducible first | refine stop_h ?_ | refine stop_c ?_ | refine stop_s ?_ | refine stop_i ?_ | refine stop_l ?_ | refine stop_m ?_ | refine stop_o ?_ | refine stop_n ?_ | refine stop_e ?_ | refine stop_b ?_)); first
    | ((with_reducible refine wpd_at 16 ?_); refine wpd_hold ?_)
    | with_reducible first | exact ⟨⟩ | (refine gB ?_; intros) | refine gT ?_ ?_
    | refine gs ?_
    | refine sx ?_))
      rename_i tb wA nA kA sA qA wB nB kB sB
      have hx3B : Ext w3 wB := FR
      have KB : Blk wB tb 41 [.slice (some ⟨bw, 0, none⟩) 3 3, .slice none 0 0, .int .i64 0, .slice none 0 0, .slice (some ⟨c7, 0, none⟩) 8 8, av, .int .i64 0, .int .i64 100] := kB.2.1 _ kB.2.2.1
      clear kA kB sA sB qA
      have hT : Hid (∀ w', Ext wB w' → TermsT w' w'.heap.size ⟨.slice (some ⟨bw, 0, none⟩) 3 3, .slice none 0 0, .slice none 0 0, .slice (some ⟨c7, 0, none⟩) 8 8, av⟩ (knTerms 2)) := fun w' hx' => (X3.out.ext (hx3B.trans hx')).terms (n := 2) (by decide)
      have IB := I3.out.ext hx3B
      have hK : Hid (∀ w', Ext wB w' → Ret Tryz.prog 15 #[.agg #[.slice (some ⟨c0, 0, none⟩) 1 1, .slice (some ⟨c1, 0, none⟩) 1 1, .slice (some ⟨c2, 0, none⟩) 1 1, .slice (some ⟨c5, 0, none⟩) 2 2, .int .i64 1, .slice none 0 0, u], .agg #[.slice (some ⟨p1, 0, none⟩) 4 4, .slice (some ⟨p4, 0, none⟩) 4 4], .agg #[.slice (some ⟨bw, 0, none⟩) 3 3, .slice none 0 0, .int .i64 0, .slice none 0 0, .slice (some ⟨c7, 0, none⟩) 8 8, av, .int .i64 0, .int .i64 100], .agg #[.slice (some ⟨e2, 0, none⟩) 4 4, .int .i64 10]] w' (.tuple #[.agg #[.int .u8 3, .int .i64 3, .int .i64 0], .int .i64 13])) := fun w' hx' => plan_check (IB.h.ext hx') (IB.p.ext hx') (hT.out _ hx') (row_sl (l := (knBeg 2).map intV) (IB.k2.ext hx') rfl (by simp [knBeg])) kn_check2
      clear IB hT
      have s3B := hx3B.st
      have kc := KB.bk
      have m0 := kh.2.2.2
      have rB := Ext.refl wB
      have nwB : Now wB := trivial
      unfold wpdH
      refine wpd_relS 18 [(17, 16)] (fun iI s v w9 => match iI with
        | 0 => v = .agg #[.slice (some ⟨c0, 0, none⟩) 1 1, .slice (some ⟨c1, 0, none⟩) 1 1, .slice (some ⟨c2, 0, none⟩) 1 1, .slice (some ⟨c5, 0, none⟩) 2 2, .int .i64 1, .slice none 0 0, u]
        | 1 => v = .agg #[.slice (some ⟨p1, 0, none⟩) 4 4, .slice (some ⟨p4, 0, none⟩) 4 4]
        | 2 => v = .agg #[.slice (some ⟨bw, 0, none⟩) 3 3, .slice none 0 0, .int .i64 0, .slice none 0 0, .slice (some ⟨c7, 0, none⟩) 8 8, av, .int .i64 0, .int .i64 100]
        | 3 => v = .slice (some ⟨eb, 0, none⟩) 7 7
        | 4 => v = .int .i64 2
        | 5 => v = .pointer (some ⟨eb, 2, none⟩)
        | 6 => v = .slice (some ⟨e2, 0, none⟩) 4 4
        | 7 => v = .slice (some ⟨ee, 0, none⟩) 7 7
        | 8 => v = .int .i64 2
        | 9 => v = .pointer (some ⟨ee, 2, none⟩)
        | 10 => v = .int .i64 10
        | 11 => v = .agg #[.slice (some ⟨e2, 0, none⟩) 4 4, .int .i64 10]
        | 12 => v = .tuple #[.agg #[.int .u8 3, .int .i64 3, .int .i64 0], .int .i64 13]
        | 13 => v = .tuple #[.agg #[.int .u8 3, .int .i64 3, .int .i64 0], .int .i64 13]
        | 14 => v = .agg #[.int .u8 3, .int .i64 3, .int .i64 0]
        | 15 => v = .int .i64 13
        | 16 => ∃ b, v = .pointer (some ⟨b, 0, none⟩) ∧ wB.heap.size ≤ b ∧ (s = false → Blk w9 b 60 [.int .u8 0, .int .i64 0, .int .i64 0]) ∧ (s = true → Blk w9 b 60 [.int .u8 3, .int .i64 3, .int .i64 0])
        | 17 => True
        | _ => False) KR KR KR KR ?_ ?_ ?_
      · intro iI s v w1 w2 hR hx9
        match iI, hR with
        | 0, h => exact h
        | 1, h => exact h
        | 2, h => exact h
        | 3, h => exact h
        | 4, h => exact h
        | 5, h => exact h
        | 6, h => exact h
        | 7, h => exact h
        | 8, h => exact h
        | 9, h => exact h
        | 10, h => exact h
        | 11, h => exact h
        | 12, h => exact h
        | 13, h => exact h
        | 14, h => exact h
        | 15, h => exact h
        | 16, ⟨b, e, h1, h2, h3⟩ => exact ⟨b, e, h1, fun hs => (h2 hs).ext hx9, fun hs => (fun h => (h.ext hx9)) (h3 hs)⟩
        | 17, h => exact h
      · intro iI oO hi ho gF w9 S9 hx9 hdep hag
        have s9 := hx9.st
        have n9 : Now w9 := trivial
        have r9 := Ext.refl w9
        have z9 := hx9.size
        rcases iI with _|_|_|_|_|_|_|_|_|_|_|_|_|_|_|_|_|_|iI
        have e := Option.some.inj ho
        subst e
        have a1 := hag.at 1 KR
        simp only [S5, ↓reduceIte, Nat.reduceEqDiff, initF, *] at a1
        clear hag hdep ho
        refine ⟨fun _ => ?_, fun a9 pa da hal => by simp [alL] at hal⟩
        refine relStep_off rfl ?_
        rotate_left
        have e := Option.some.inj ho
        subst e
        have a2 := hag.at 2 KR
        simp only [S5, ↓reduceIte, Nat.reduceEqDiff, initF, *] at a2
        clear hag hdep ho
        refine ⟨fun _ => ?_, fun a9 pa da hal => by simp [alL] at hal⟩
        refine relStep_off rfl ?_
        rotate_left
        have e := Option.some.inj ho
        subst e
        have a8 := hag.at 8 KR
        simp only [S5, ↓reduceIte, Nat.reduceEqDiff, initF, *] at a8
        clear hag hdep ho
        refine ⟨fun _ => ?_, fun a9 pa da hal => by simp [alL] at hal⟩
        refine relStep_off rfl ?_
        rotate_left
        have e := Option.some.inj ho
        subst e
        have a3 := hag.at 3 KR
        simp only [S5, ↓reduceIte, Nat.reduceEqDiff, initF, *] at a3
        clear hag hdep ho
        refine ⟨fun _ => ?_, fun a9 pa da hal => by simp [alL] at hal⟩
        refine relStep_off rfl ?_
        rotate_left
        have e := Option.some.inj ho
        subst e
        have a7 := hag.at 7 KR
        simp only [S5, ↓reduceIte, Nat.reduceEqDiff, initF, *] at a7
        clear hag hdep ho
        refine ⟨fun _ => ?_, fun a9 pa da hal => by simp [alL] at hal⟩
        refine relStep_off rfl ?_
        rotate_left
        have e := Option.some.inj ho
        subst e
        have d3 : (gF 86) = .slice (some ⟨eb, 0, none⟩) 7 7 := hdep ⟨3, .data⟩ (by simp) rfl _ _ rfl rfl
        have d4 : (gF 87) = .int .i64 2 := hdep ⟨4, .data⟩ (by simp) rfl _ _ rfl rfl
        clear hag hdep ho
        refine ⟨fun _ => ?_, fun a9 pa da hal => by simp [alL] at hal⟩
        refine relStep_off rfl ?_
        rotate_left
        have e := Option.some.inj ho
        subst e
        have d5 : (gF 88) = .pointer (some ⟨eb, 2, none⟩) := hdep ⟨5, .data⟩ (by simp) rfl _ _ rfl rfl
        clear hag hdep ho
        refine ⟨fun _ => ?_, fun a9 pa da hal => by simp [alL] at hal⟩
        refine relStep_off rfl ?_
        rotate_left
        have e := Option.some.inj ho
        subst e
        have a4 := hag.at 4 KR
        simp only [S5, ↓reduceIte, Nat.reduceEqDiff, initF, *] at a4
        clear hag hdep ho
        refine ⟨fun _ => ?_, fun a9 pa da hal => by simp [alL] at hal⟩
        refine relStep_off rfl ?_
        rotate_left
        have e := Option.some.inj ho
        subst e
        have a7 := hag.at 7 KR
        simp only [S5, ↓reduceIte, Nat.reduceEqDiff, initF, *] at a7
        clear hag hdep ho
        refine ⟨fun _ => ?_, fun a9 pa da hal => by simp [alL] at hal⟩
        refine relStep_off rfl ?_
        rotate_left
        have e := Option.some.inj ho
        subst e
        have d7 : (gF 90) = .slice (some ⟨ee, 0, none⟩) 7 7 := hdep ⟨7, .data⟩ (by simp) rfl _ _ rfl rfl
        have d8 : (gF 91) = .int .i64 2 := hdep ⟨8, .data⟩ (by simp) rfl _ _ rfl rfl
        clear hag hdep ho
        refine ⟨fun _ => ?_, fun a9 pa da hal => by simp [alL] at hal⟩
        refine relStep_off rfl ?_
        rotate_left
        have e := Option.some.inj ho
        subst e
        have d9 : (gF 92) = .pointer (some ⟨ee, 2, none⟩) := hdep ⟨9, .data⟩ (by simp) rfl _ _ rfl rfl
        clear hag hdep ho
        refine ⟨fun _ => ?_, fun a9 pa da hal => by simp [alL] at hal⟩
        refine relStep_off rfl ?_
        rotate_left
        have e := Option.some.inj ho
        subst e
        have d6 : (gF 89) = .slice (some ⟨e2, 0, none⟩) 4 4 := hdep ⟨6, .data⟩ (by simp) rfl _ _ rfl rfl
        have d10 : (gF 93) = .int .i64 10 := hdep ⟨10, .data⟩ (by simp) rfl _ _ rfl rfl
        clear hag hdep ho
        refine ⟨fun _ => ?_, fun a9 pa da hal => by simp [alL] at hal⟩
        refine relStep_off rfl ?_
        rotate_left
        have e := Option.some.inj ho
        subst e
        have d0 : (gF 83) = .agg #[.slice (some ⟨c0, 0, none⟩) 1 1, .slice (some ⟨c1, 0, none⟩) 1 1, .slice (some ⟨c2, 0, none⟩) 1 1, .slice (some ⟨c5, 0, none⟩) 2 2, .int .i64 1, .slice none 0 0, u] := hdep ⟨0, .data⟩ (by simp) rfl _ _ rfl rfl
        have d1 : (gF 84) = .agg #[.slice (some ⟨p1, 0, none⟩) 4 4, .slice (some ⟨p4, 0, none⟩) 4 4] := hdep ⟨1, .data⟩ (by simp) rfl _ _ rfl rfl
        have d2 : (gF 85) = .agg #[.slice (some ⟨bw, 0, none⟩) 3 3, .slice none 0 0, .int .i64 0, .slice none 0 0, .slice (some ⟨c7, 0, none⟩) 8 8, av, .int .i64 0, .int .i64 100] := hdep ⟨2, .data⟩ (by simp) rfl _ _ rfl rfl
        have d11 : (gF 94) = .agg #[.slice (some ⟨e2, 0, none⟩) 4 4, .int .i64 10] := hdep ⟨11, .data⟩ (by simp) rfl _ _ rfl rfl
        clear hag hdep ho
        refine ⟨fun _ => ?_, fun a9 pa da hal => by simp [alL] at hal⟩
        refine relStep_off rfl ?_
        rotate_left
        have e := Option.some.inj ho
        subst e
        have d12 : (gF 95) = .tuple #[.agg #[.int .u8 3, .int .i64 3, .int .i64 0], .int .i64 13] := hdep ⟨12, .data⟩ (by simp) rfl _ _ rfl rfl
        clear hag hdep ho
        refine ⟨fun _ => ?_, fun a9 pa da hal => by simp [alL] at hal⟩
        refine relStep_off rfl ?_
        rotate_left
        have e := Option.some.inj ho
        subst e
        have d13 : (gF 82) = .tuple #[.agg #[.int .u8 3, .int .i64 3, .int .i64 0], .int .i64 13] := hdep ⟨13, .data⟩ (by simp) rfl _ _ rfl rfl
        clear hag hdep ho
        refine ⟨fun _ => ?_, fun a9 pa da hal => by simp [alL] at hal⟩
        refine relStep_off rfl ?_
        rotate_left
        have e := Option.some.inj ho
        subst e
        have d13 : (gF 82) = .tuple #[.agg #[.int .u8 3, .int .i64 3, .int .i64 0], .int .i64 13] := hdep ⟨13, .data⟩ (by simp) rfl _ _ rfl rfl
        clear hag hdep ho
        refine ⟨fun _ => ?_, fun a9 pa da hal => by simp [alL] at hal⟩
        refine relStep_off rfl ?_
        rotate_left
        have e := Option.some.inj ho
        subst e
        clear hag hdep ho
        refine ⟨fun _ => ?_, fun a9 pa da hal => by simp [alL] at hal⟩
        refine relStep_off rfl ?_
        rotate_left
        have e := Option.some.inj ho
        subst e
        have d16 : ∃ b, (gF 9) = .pointer (some ⟨b, 0, none⟩) ∧ wB.heap.size ≤ b ∧ ((S9 16) = false → Blk w9 b 60 [.int .u8 0, .int .i64 0, .int .i64 0]) ∧ ((S9 16) = true → Blk w9 b 60 [.int .u8 3, .int .i64 3, .int .i64 0]) := hdep ⟨16, .data⟩ (by simp) rfl _ _ rfl rfl
        obtain ⟨b16, e16, q16, hz16, _⟩ := d16
        have d14 : (gF 96) = .agg #[.int .u8 3, .int .i64 3, .int .i64 0] := hdep ⟨14, .data⟩ (by simp) rfl _ _ rfl rfl
        clear hag hdep ho
        refine ⟨fun h => by simp [alL] at h, fun a9 pa da hal hS9 hpa hda => ?_⟩
        obtain rfl : 16 = a9 := by simpa [alL] using hal
        obtain rfl := Option.some.inj hpa
        obtain rfl := Option.some.inj hda
        have hz := hz16 hS9
        clear hal hpa hda hz16
        refine relStep_off rfl ?_
        rotate_left
        · omega
        all_goals (repeat' ((fail_if_success (with_reducible first | refine stop_h ?_ | refine stop_c ?_ | refine stop_s ?_ | refine stop_i ?_ | refine stop_l ?_ | refine stop_m ?_ | refine stop_o ?_ | refine stop_n ?_ | refine stop_e ?_ | refine stop_b ?_)); first
    | with_reducible first | exact ⟨⟩ | (refine gB ?_; intros) | refine gT ?_ ?_
    | refine gs ?_
    | refine sx ?_))
        all_goals first
          | (refine CallsV.mono (hK.out _ hx9) fun v w10 hh => ⟨hh.2, hh.1⟩)
          | (rename_i b10 w10 n10 k10 s10 q10; exact ⟨_, rfl, FR, fun _ => k10.2.1 _ k10.2.2.1, fun h => absurd h (by decide)⟩)
          | (
              refine stT_agg (w0 := w9) (vs := [.int .u8 3, .int .i64 3, .int .i64 0]) hz rfl KR rfl (by simp [one_int, Value.oneCell']) fun w10 hb10 hc => ⟨b16, hc, q16, ⟨b16, (by first | exact e16 | rfl), q16, fun h => absurd h (by decide), fun _ => hb10⟩, ?_⟩
              intro iI s v hne hR
              match iI, hR with
              | 0, h | 1, h | 2, h | 3, h | 4, h | 5, h | 6, h | 7, h | 8, h | 9, h | 10, h | 11, h | 13, h | 14, h | 15, h | 17, h => exact h
              | 12, h => exact h
              | 16, _ => exact absurd rfl hne)
      · intro g9 w9 hx9 hR hag
        have s9 := hx9.st
        have n9 : Now w9 := trivial
        have r9 := Ext.refl w9
        have z9 := hx9.size
        have d15 : (g9 97) = .int .i64 13 := hR 15 _ _ (by decide) rfl rfl
        have d16 : ∃ b, (g9 9) = .pointer (some ⟨b, 0, none⟩) ∧ wB.heap.size ≤ b ∧ (true = false → Blk w9 b 60 [.int .u8 0, .int .i64 0, .int .i64 0]) ∧ (true = true → Blk w9 b 60 [.int .u8 3, .int .i64 3, .int .i64 0]) := hR 16 _ _ (by decide) rfl rfl
        obtain ⟨b16, e16, q16, _, f16⟩ := d16
        replace f16 := f16 rfl
        have nw16 := Nw.of q16
        have K11 := f16.bk
        have a1 := hag.at 1 KR
        have a2 := hag.at 2 KR
        have a3 := hag.at 3 KR
        have a4 := hag.at 4 KR
        have a5 := hag.at 5 KR
        have a6 := hag.at 6 KR
        have a7 := hag.at 7 KR
        simp only [S5, ↓reduceIte, Nat.reduceEqDiff, initF, *] at a1 a2 a3 a4 a5 a6 a7
        clear hag hR
        simp only [List.drop_succ_cons, List.drop_zero]
        have hxk9 : Hid (Ext wk w9) := hx3.trans (hx3B.trans hx9)
        clear hK KB
        (repeat' ((fail_if_success (with_reducible first | refine stop_h ?_ | refine stop_c ?_ | refine stop_s ?_ | refine stop_i ?_ | refine stop_l ?_ | refine stop_m ?_ | refine stop_o ?_ | refine stop_n ?_ | refine stop_e ?_ | refine stop_b ?_)); first
    | with_reducible first | exact ⟨⟩ | (refine gB ?_; intros) | refine gT ?_ ?_
    | refine gs ?_
    | refine sx ?_))
        refine next_g hk3 hlt ?_
        (repeat' ((fail_if_success (with_reducible first | refine stop_h ?_ | refine stop_c ?_ | refine stop_s ?_ | refine stop_i ?_ | refine stop_l ?_ | refine stop_m ?_ | refine stop_o ?_ | refine stop_n ?_ | refine stop_e ?_ | refine stop_b ?_)); first
    | with_reducible first | exact ⟨⟩ | (refine gB ?_; intros) | refine gT ?_ ?_
    | refine gs ?_
    | refine sx ?_))
        all_goals exact ⟨rfl, trivial⟩
    · have hi3' : g3 7 = .int .i64 3 := hi3
      clear hi3
      have ht : Int.toNat 3 = 3 := rfl
      have h7 : (3 : Int) < ((7 : Nat) : Int) := by decide
      (repeat' ((fail_if_success (with_reducible first | refine stop_h ?_ | refine stop_c ?_ | refine stop_s ?_ | refine stop_i ?_ | refine stop_l ?_ | refine stop_m ?_ | refine stop_o ?_ | refine stop_n ?_ | refine stop_e ?_ | refine stop_b ?_)); first
    | ((with_reducible refine wpd_at 16 ?_); refine wpd_hold ?_)
    | with_reducible first | exact ⟨⟩ | (refine gB ?_; intros) | refine gT ?_ ?_
    | refine gs ?_
    | refine sx ?_))
      rename_i tb wA nA kA sA qA wC nC kC sC ba wD nD kD sD qD
      have hne1 : ¬ ba = tb := by have h1 := (show Blk wC tb _ _ from kC.2.1 _ kC.2.2.1).lt; have h2 := (show wC.heap.size ≤ ba from FR); omega
      refine st_one (i := 1) KR (by simp) rfl fun wE nE kE sE => ?_
      simp only [List.set_cons_succ, List.set_cons_zero] at kE
      (repeat' ((fail_if_success (with_reducible first | refine stop_h ?_ | refine stop_c ?_ | refine stop_s ?_ | refine stop_i ?_ | refine stop_l ?_ | refine stop_m ?_ | refine stop_o ?_ | refine stop_n ?_ | refine stop_e ?_ | refine stop_b ?_)); first
    | ((with_reducible refine wpd_at 16 ?_); refine wpd_hold ?_)
    | with_reducible first | exact ⟨⟩ | (refine gB ?_; intros) | refine gT ?_ ?_
    | refine gs ?_
    | refine sx ?_))
      rename_i bq wF nF kF sF qF lF
      have hne2 : ¬ bq = tb := by have h1 := (show Blk wE tb _ _ from kE.2.1 _ kE.2.2.1).lt; have h2 := (show wE.heap.size ≤ bq from FR); omega
      refine st_one (i := 5) KR (by simp) rfl fun wB nB kB sB => ?_
      simp only [List.set_cons_succ, List.set_cons_zero] at kB
      (repeat' ((fail_if_success (with_reducible first | refine stop_h ?_ | refine stop_c ?_ | refine stop_s ?_ | refine stop_i ?_ | refine stop_l ?_ | refine stop_m ?_ | refine stop_o ?_ | refine stop_n ?_ | refine stop_e ?_ | refine stop_b ?_)); first
    | ((with_reducible refine wpd_at 16 ?_); refine wpd_hold ?_)
    | with_reducible first | exact ⟨⟩ | (refine gB ?_; intros) | refine gT ?_ ?_
    | refine gs ?_
    | refine sx ?_))
      have hx3B : Ext w3 wB := FR
      have KB : Blk wB tb 41 [.slice (some ⟨bw, 0, none⟩) 3 3, .slice (some ⟨ba, 0, none⟩) 1 1, .int .i64 0, .slice none 0 0, .slice (some ⟨c7, 0, none⟩) 8 8, .slice (some ⟨bq, 0, none⟩) 4 4, .int .i64 0, .int .i64 100] := kB.2.1 _ kB.2.2.1
      have KA : Blk wB ba 81 [.int .u8 3, .int .i64 0] := kD.2.1 _ FR
      have KQ : Blk wB bq 3 [.int .i64 5, .int .i64 6, .int .i64 (-1), .int .i64 (-1)] := kF.2.1 _ FR
      clear kA sA qA kC sC kD sD qD kE sE kF sF qF lF kB sB
      have hT : Hid (∀ w', Ext wB w' → TermsT w' w'.heap.size ⟨.slice (some ⟨bw, 0, none⟩) 3 3, .slice (some ⟨ba, 0, none⟩) 1 1, .slice none 0 0, .slice (some ⟨c7, 0, none⟩) 8 8, .slice (some ⟨bq, 0, none⟩) 4 4⟩ (knTerms 3)) := fun w' hx' => (X3.out.ext (hx3B.trans hx')).terms3 (n := 3) (KA.ext hx') (KQ.ext hx')
      have IB := I3.out.ext hx3B
      have hK : Hid (∀ w', Ext wB w' → Ret Tryz.prog 15 #[.agg #[.slice (some ⟨c0, 0, none⟩) 1 1, .slice (some ⟨c1, 0, none⟩) 1 1, .slice (some ⟨c2, 0, none⟩) 1 1, .slice (some ⟨c5, 0, none⟩) 2 2, .int .i64 1, .slice none 0 0, u], .agg #[.slice (some ⟨p1, 0, none⟩) 4 4, .slice (some ⟨p4, 0, none⟩) 4 4], .agg #[.slice (some ⟨bw, 0, none⟩) 3 3, .slice (some ⟨ba, 0, none⟩) 1 1, .int .i64 0, .slice none 0 0, .slice (some ⟨c7, 0, none⟩) 8 8, .slice (some ⟨bq, 0, none⟩) 4 4, .int .i64 0, .int .i64 100], .agg #[.slice (some ⟨e3, 0, none⟩) 4 4, .int .i64 8]] w' (.tuple #[.agg #[.int .u8 4, .int .i64 0, .int .i64 0], .int .i64 13])) := fun w' hx' => plan_check (IB.h.ext hx') (IB.p.ext hx') (hT.out _ hx') (row_sl (l := (knBeg 3).map intV) (IB.k3.ext hx') rfl (by simp [knBeg])) kn_check3
      clear IB hT
      have s3B := hx3B.st
      have kc := KB.bk
      have m0 := kh.2.2.2
      have rB := Ext.refl wB
      have nwB : Now wB := trivial
      unfold wpdH
      refine wpd_relS 18 [(17, 16)] (fun iI s v w9 => match iI with
        | 0 => v = .agg #[.slice (some ⟨c0, 0, none⟩) 1 1, .slice (some ⟨c1, 0, none⟩) 1 1, .slice (some ⟨c2, 0, none⟩) 1 1, .slice (some ⟨c5, 0, none⟩) 2 2, .int .i64 1, .slice none 0 0, u]
        | 1 => v = .agg #[.slice (some ⟨p1, 0, none⟩) 4 4, .slice (some ⟨p4, 0, none⟩) 4 4]
        | 2 => v = .agg #[.slice (some ⟨bw, 0, none⟩) 3 3, .slice (some ⟨ba, 0, none⟩) 1 1, .int .i64 0, .slice none 0 0, .slice (some ⟨c7, 0, none⟩) 8 8, .slice (some ⟨bq, 0, none⟩) 4 4, .int .i64 0, .int .i64 100]
        | 3 => v = .slice (some ⟨eb, 0, none⟩) 7 7
        | 4 => v = .int .i64 3
        | 5 => v = .pointer (some ⟨eb, 3, none⟩)
        | 6 => v = .slice (some ⟨e3, 0, none⟩) 4 4
        | 7 => v = .slice (some ⟨ee, 0, none⟩) 7 7
        | 8 => v = .int .i64 3
        | 9 => v = .pointer (some ⟨ee, 3, none⟩)
        | 10 => v = .int .i64 8
        | 11 => v = .agg #[.slice (some ⟨e3, 0, none⟩) 4 4, .int .i64 8]
        | 12 => v = .tuple #[.agg #[.int .u8 4, .int .i64 0, .int .i64 0], .int .i64 13]
        | 13 => v = .tuple #[.agg #[.int .u8 4, .int .i64 0, .int .i64 0], .int .i64 13]
        | 14 => v = .agg #[.int .u8 4, .int .i64 0, .int .i64 0]
        | 15 => v = .int .i64 13
        | 16 => ∃ b, v = .pointer (some ⟨b, 0, none⟩) ∧ wB.heap.size ≤ b ∧ (s = false → Blk w9 b 60 [.int .u8 0, .int .i64 0, .int .i64 0]) ∧ (s = true → Blk w9 b 60 [.int .u8 4, .int .i64 0, .int .i64 0])
        | 17 => True
        | _ => False) KR KR KR KR ?_ ?_ ?_
      · intro iI s v w1 w2 hR hx9
        match iI, hR with
        | 0, h => exact h
        | 1, h => exact h
        | 2, h => exact h
        | 3, h => exact h
        | 4, h => exact h
        | 5, h => exact h
        | 6, h => exact h
        | 7, h => exact h
        | 8, h => exact h
        | 9, h => exact h
        | 10, h => exact h
        | 11, h => exact h
        | 12, h => exact h
        | 13, h => exact h
        | 14, h => exact h
        | 15, h => exact h
        | 16, ⟨b, e, h1, h2, h3⟩ => exact ⟨b, e, h1, fun hs => (h2 hs).ext hx9, fun hs => (fun h => (h.ext hx9)) (h3 hs)⟩
        | 17, h => exact h
      · intro iI oO hi ho gF w9 S9 hx9 hdep hag
        have s9 := hx9.st
        have n9 : Now w9 := trivial
        have r9 := Ext.refl w9
        have z9 := hx9.size
        rcases iI with _|_|_|_|_|_|_|_|_|_|_|_|_|_|_|_|_|_|iI
        have e := Option.some.inj ho
        subst e
        have a1 := hag.at 1 KR
        simp only [S5, ↓reduceIte, Nat.reduceEqDiff, initF, *] at a1
        clear hag hdep ho
        refine ⟨fun _ => ?_, fun a9 pa da hal => by simp [alL] at hal⟩
        refine relStep_off rfl ?_
        rotate_left
        have e := Option.some.inj ho
        subst e
        have a2 := hag.at 2 KR
        simp only [S5, ↓reduceIte, Nat.reduceEqDiff, initF, *] at a2
        clear hag hdep ho
        refine ⟨fun _ => ?_, fun a9 pa da hal => by simp [alL] at hal⟩
        refine relStep_off rfl ?_
        rotate_left
        have e := Option.some.inj ho
        subst e
        have a8 := hag.at 8 KR
        simp only [S5, ↓reduceIte, Nat.reduceEqDiff, initF, *] at a8
        clear hag hdep ho
        refine ⟨fun _ => ?_, fun a9 pa da hal => by simp [alL] at hal⟩
        refine relStep_off rfl ?_
        rotate_left
        have e := Option.some.inj ho
        subst e
        have a3 := hag.at 3 KR
        simp only [S5, ↓reduceIte, Nat.reduceEqDiff, initF, *] at a3
        clear hag hdep ho
        refine ⟨fun _ => ?_, fun a9 pa da hal => by simp [alL] at hal⟩
        refine relStep_off rfl ?_
        rotate_left
        have e := Option.some.inj ho
        subst e
        have a7 := hag.at 7 KR
        simp only [S5, ↓reduceIte, Nat.reduceEqDiff, initF, *] at a7
        clear hag hdep ho
        refine ⟨fun _ => ?_, fun a9 pa da hal => by simp [alL] at hal⟩
        refine relStep_off rfl ?_
        rotate_left
        have e := Option.some.inj ho
        subst e
        have d3 : (gF 86) = .slice (some ⟨eb, 0, none⟩) 7 7 := hdep ⟨3, .data⟩ (by simp) rfl _ _ rfl rfl
        have d4 : (gF 87) = .int .i64 3 := hdep ⟨4, .data⟩ (by simp) rfl _ _ rfl rfl
        clear hag hdep ho
        refine ⟨fun _ => ?_, fun a9 pa da hal => by simp [alL] at hal⟩
        refine relStep_off rfl ?_
        rotate_left
        have e := Option.some.inj ho
        subst e
        have d5 : (gF 88) = .pointer (some ⟨eb, 3, none⟩) := hdep ⟨5, .data⟩ (by simp) rfl _ _ rfl rfl
        clear hag hdep ho
        refine ⟨fun _ => ?_, fun a9 pa da hal => by simp [alL] at hal⟩
        refine relStep_off rfl ?_
        rotate_left
        have e := Option.some.inj ho
        subst e
        have a4 := hag.at 4 KR
        simp only [S5, ↓reduceIte, Nat.reduceEqDiff, initF, *] at a4
        clear hag hdep ho
        refine ⟨fun _ => ?_, fun a9 pa da hal => by simp [alL] at hal⟩
        refine relStep_off rfl ?_
        rotate_left
        have e := Option.some.inj ho
        subst e
        have a7 := hag.at 7 KR
        simp only [S5, ↓reduceIte, Nat.reduceEqDiff, initF, *] at a7
        clear hag hdep ho
        refine ⟨fun _ => ?_, fun a9 pa da hal => by simp [alL] at hal⟩
        refine relStep_off rfl ?_
        rotate_left
        have e := Option.some.inj ho
        subst e
        have d7 : (gF 90) = .slice (some ⟨ee, 0, none⟩) 7 7 := hdep ⟨7, .data⟩ (by simp) rfl _ _ rfl rfl
        have d8 : (gF 91) = .int .i64 3 := hdep ⟨8, .data⟩ (by simp) rfl _ _ rfl rfl
        clear hag hdep ho
        refine ⟨fun _ => ?_, fun a9 pa da hal => by simp [alL] at hal⟩
        refine relStep_off rfl ?_
        rotate_left
        have e := Option.some.inj ho
        subst e
        have d9 : (gF 92) = .pointer (some ⟨ee, 3, none⟩) := hdep ⟨9, .data⟩ (by simp) rfl _ _ rfl rfl
        clear hag hdep ho
        refine ⟨fun _ => ?_, fun a9 pa da hal => by simp [alL] at hal⟩
        refine relStep_off rfl ?_
        rotate_left
        have e := Option.some.inj ho
        subst e
        have d6 : (gF 89) = .slice (some ⟨e3, 0, none⟩) 4 4 := hdep ⟨6, .data⟩ (by simp) rfl _ _ rfl rfl
        have d10 : (gF 93) = .int .i64 8 := hdep ⟨10, .data⟩ (by simp) rfl _ _ rfl rfl
        clear hag hdep ho
        refine ⟨fun _ => ?_, fun a9 pa da hal => by simp [alL] at hal⟩
        refine relStep_off rfl ?_
        rotate_left
        have e := Option.some.inj ho
        subst e
        have d0 : (gF 83) = .agg #[.slice (some ⟨c0, 0, none⟩) 1 1, .slice (some ⟨c1, 0, none⟩) 1 1, .slice (some ⟨c2, 0, none⟩) 1 1, .slice (some ⟨c5, 0, none⟩) 2 2, .int .i64 1, .slice none 0 0, u] := hdep ⟨0, .data⟩ (by simp) rfl _ _ rfl rfl
        have d1 : (gF 84) = .agg #[.slice (some ⟨p1, 0, none⟩) 4 4, .slice (some ⟨p4, 0, none⟩) 4 4] := hdep ⟨1, .data⟩ (by simp) rfl _ _ rfl rfl
        have d2 : (gF 85) = .agg #[.slice (some ⟨bw, 0, none⟩) 3 3, .slice (some ⟨ba, 0, none⟩) 1 1, .int .i64 0, .slice none 0 0, .slice (some ⟨c7, 0, none⟩) 8 8, .slice (some ⟨bq, 0, none⟩) 4 4, .int .i64 0, .int .i64 100] := hdep ⟨2, .data⟩ (by simp) rfl _ _ rfl rfl
        have d11 : (gF 94) = .agg #[.slice (some ⟨e3, 0, none⟩) 4 4, .int .i64 8] := hdep ⟨11, .data⟩ (by simp) rfl _ _ rfl rfl
        clear hag hdep ho
        refine ⟨fun _ => ?_, fun a9 pa da hal => by simp [alL] at hal⟩
        refine relStep_off rfl ?_
        rotate_left
        have e := Option.some.inj ho
        subst e
        have d12 : (gF 95) = .tuple #[.agg #[.int .u8 4, .int .i64 0, .int .i64 0], .int .i64 13] := hdep ⟨12, .data⟩ (by simp) rfl _ _ rfl rfl
        clear hag hdep ho
        refine ⟨fun _ => ?_, fun a9 pa da hal => by simp [alL] at hal⟩
        refine relStep_off rfl ?_
        rotate_left
        have e := Option.some.inj ho
        subst e
        have d13 : (gF 82) = .tuple #[.agg #[.int .u8 4, .int .i64 0, .int .i64 0], .int .i64 13] := hdep ⟨13, .data⟩ (by simp) rfl _ _ rfl rfl
        clear hag hdep ho
        refine ⟨fun _ => ?_, fun a9 pa da hal => by simp [alL] at hal⟩
        refine relStep_off rfl ?_
        rotate_left
        have e := Option.some.inj ho
        subst e
        have d13 : (gF 82) = .tuple #[.agg #[.int .u8 4, .int .i64 0, .int .i64 0], .int .i64 13] := hdep ⟨13, .data⟩ (by simp) rfl _ _ rfl rfl
        clear hag hdep ho
        refine ⟨fun _ => ?_, fun a9 pa da hal => by simp [alL] at hal⟩
        refine relStep_off rfl ?_
        rotate_left
        have e := Option.some.inj ho
        subst e
        clear hag hdep ho
        refine ⟨fun _ => ?_, fun a9 pa da hal => by simp [alL] at hal⟩
        refine relStep_off rfl ?_
        rotate_left
        have e := Option.some.inj ho
        subst e
        have d16 : ∃ b, (gF 9) = .pointer (some ⟨b, 0, none⟩) ∧ wB.heap.size ≤ b ∧ ((S9 16) = false → Blk w9 b 60 [.int .u8 0, .int .i64 0, .int .i64 0]) ∧ ((S9 16) = true → Blk w9 b 60 [.int .u8 4, .int .i64 0, .int .i64 0]) := hdep ⟨16, .data⟩ (by simp) rfl _ _ rfl rfl
        obtain ⟨b16, e16, q16, hz16, _⟩ := d16
        have d14 : (gF 96) = .agg #[.int .u8 4, .int .i64 0, .int .i64 0] := hdep ⟨14, .data⟩ (by simp) rfl _ _ rfl rfl
        clear hag hdep ho
        refine ⟨fun h => by simp [alL] at h, fun a9 pa da hal hS9 hpa hda => ?_⟩
        obtain rfl : 16 = a9 := by simpa [alL] using hal
        obtain rfl := Option.some.inj hpa
        obtain rfl := Option.some.inj hda
        have hz := hz16 hS9
        clear hal hpa hda hz16
        refine relStep_off rfl ?_
        rotate_left
        · omega
        all_goals (repeat' ((fail_if_success (with_reducible first | refine stop_h ?_ | refine stop_c ?_ | refine stop_s ?_ | refine stop_i ?_ | refine stop_l ?_ | refine stop_m ?_ | refine stop_o ?_ | refine stop_n ?_ | refine stop_e ?_ | refine stop_b ?_)); first
    | with_reducible first | exact ⟨⟩ | (refine gB ?_; intros) | refine gT ?_ ?_
    | refine gs ?_
    | refine sx ?_))
        all_goals first
          | (refine CallsV.mono (hK.out _ hx9) fun v w10 hh => ⟨hh.2, hh.1⟩)
          | (rename_i b10 w10 n10 k10 s10 q10; exact ⟨_, rfl, FR, fun _ => k10.2.1 _ k10.2.2.1, fun h => absurd h (by decide)⟩)
          | (
              refine stT_agg (w0 := w9) (vs := [.int .u8 4, .int .i64 0, .int .i64 0]) hz rfl KR rfl (by simp [one_int, Value.oneCell']) fun w10 hb10 hc => ⟨b16, hc, q16, ⟨b16, (by first | exact e16 | rfl), q16, fun h => absurd h (by decide), fun _ => hb10⟩, ?_⟩
              intro iI s v hne hR
              match iI, hR with
              | 0, h | 1, h | 2, h | 3, h | 4, h | 5, h | 6, h | 7, h | 8, h | 9, h | 10, h | 11, h | 13, h | 14, h | 15, h | 17, h => exact h
              | 12, h => exact h
              | 16, _ => exact absurd rfl hne)
      · intro g9 w9 hx9 hR hag
        have s9 := hx9.st
        have n9 : Now w9 := trivial
        have r9 := Ext.refl w9
        have z9 := hx9.size
        have d15 : (g9 97) = .int .i64 13 := hR 15 _ _ (by decide) rfl rfl
        have d16 : ∃ b, (g9 9) = .pointer (some ⟨b, 0, none⟩) ∧ wB.heap.size ≤ b ∧ (true = false → Blk w9 b 60 [.int .u8 0, .int .i64 0, .int .i64 0]) ∧ (true = true → Blk w9 b 60 [.int .u8 4, .int .i64 0, .int .i64 0]) := hR 16 _ _ (by decide) rfl rfl
        obtain ⟨b16, e16, q16, _, f16⟩ := d16
        replace f16 := f16 rfl
        have nw16 := Nw.of q16
        have K11 := f16.bk
        have a1 := hag.at 1 KR
        have a2 := hag.at 2 KR
        have a3 := hag.at 3 KR
        have a4 := hag.at 4 KR
        have a5 := hag.at 5 KR
        have a6 := hag.at 6 KR
        have a7 := hag.at 7 KR
        simp only [S5, ↓reduceIte, Nat.reduceEqDiff, initF, *] at a1 a2 a3 a4 a5 a6 a7
        clear hag hR
        simp only [List.drop_succ_cons, List.drop_zero]
        have hxk9 : Hid (Ext wk w9) := hx3.trans (hx3B.trans hx9)
        clear hK KB
        (repeat' ((fail_if_success (with_reducible first | refine stop_h ?_ | refine stop_c ?_ | refine stop_s ?_ | refine stop_i ?_ | refine stop_l ?_ | refine stop_m ?_ | refine stop_o ?_ | refine stop_n ?_ | refine stop_e ?_ | refine stop_b ?_)); first
    | with_reducible first | exact ⟨⟩ | (refine gB ?_; intros) | refine gT ?_ ?_
    | refine gs ?_
    | refine sx ?_))
        refine next_g hk3 hlt ?_
        (repeat' ((fail_if_success (with_reducible first | refine stop_h ?_ | refine stop_c ?_ | refine stop_s ?_ | refine stop_i ?_ | refine stop_l ?_ | refine stop_m ?_ | refine stop_o ?_ | refine stop_n ?_ | refine stop_e ?_ | refine stop_b ?_)); first
    | with_reducible first | exact ⟨⟩ | (refine gB ?_; intros) | refine gT ?_ ?_
    | refine gs ?_
    | refine sx ?_))
        all_goals exact ⟨rfl, trivial⟩
    · have hi3' : g3 7 = .int .i64 4 := hi3
      clear hi3
      have ht : Int.toNat 4 = 4 := rfl
      have h7 : (4 : Int) < ((7 : Nat) : Int) := by decide
      (repeat' ((fail_if_success (with_reducible first | refine stop_h ?_ | refine stop_c ?_ | refine stop_s ?_ | refine stop_i ?_ | refine stop_l ?_ | refine stop_m ?_ | refine stop_o ?_ | refine stop_n ?_ | refine stop_e ?_ | refine stop_b ?_)); first
    | ((with_reducible refine wpd_at 16 ?_); refine wpd_hold ?_)
    | with_reducible first | exact ⟨⟩ | (refine gB ?_; intros) | refine gT ?_ ?_
    | refine gs ?_
    | refine sx ?_))
      rename_i tb wA nA kA sA qA wC nC kC sC ba wD nD kD sD qD
      have hne1 : ¬ ba = tb := by have h1 := (show Blk wC tb _ _ from kC.2.1 _ kC.2.2.1).lt; have h2 := (show wC.heap.size ≤ ba from FR); omega
      refine st_one (i := 1) KR (by simp) rfl fun wE nE kE sE => ?_
      simp only [List.set_cons_succ, List.set_cons_zero] at kE
      (repeat' ((fail_if_success (with_reducible first | refine stop_h ?_ | refine stop_c ?_ | refine stop_s ?_ | refine stop_i ?_ | refine stop_l ?_ | refine stop_m ?_ | refine stop_o ?_ | refine stop_n ?_ | refine stop_e ?_ | refine stop_b ?_)); first
    | ((with_reducible refine wpd_at 16 ?_); refine wpd_hold ?_)
    | with_reducible first | exact ⟨⟩ | (refine gB ?_; intros) | refine gT ?_ ?_
    | refine gs ?_
    | refine sx ?_))
      rename_i bq wF nF kF sF qF lF
      have hne2 : ¬ bq = tb := by have h1 := (show Blk wE tb _ _ from kE.2.1 _ kE.2.2.1).lt; have h2 := (show wE.heap.size ≤ bq from FR); omega
      refine st_one (i := 5) KR (by simp) rfl fun wG nG kG sG => ?_
      simp only [List.set_cons_succ, List.set_cons_zero] at kG
      (repeat' ((fail_if_success (with_reducible first | refine stop_h ?_ | refine stop_c ?_ | refine stop_s ?_ | refine stop_i ?_ | refine stop_l ?_ | refine stop_m ?_ | refine stop_o ?_ | refine stop_n ?_ | refine stop_e ?_ | refine stop_b ?_)); first
    | ((with_reducible refine wpd_at 16 ?_); refine wpd_hold ?_)
    | with_reducible first | exact ⟨⟩ | (refine gB ?_; intros) | refine gT ?_ ?_
    | refine gs ?_
    | refine sx ?_))
      refine st_one (i := 2) KR (by simp) rfl fun wB nB kB sB => ?_
      simp only [List.set_cons_succ, List.set_cons_zero] at kB
      (repeat' ((fail_if_success (with_reducible first | refine stop_h ?_ | refine stop_c ?_ | refine stop_s ?_ | refine stop_i ?_ | refine stop_l ?_ | refine stop_m ?_ | refine stop_o ?_ | refine stop_n ?_ | refine stop_e ?_ | refine stop_b ?_)); first
    | ((with_reducible refine wpd_at 16 ?_); refine wpd_hold ?_)
    | with_reducible first | exact ⟨⟩ | (refine gB ?_; intros) | refine gT ?_ ?_
    | refine gs ?_
    | refine sx ?_))
      have hx3B : Ext w3 wB := FR
      have KB : Blk wB tb 41 [.slice (some ⟨bw, 0, none⟩) 3 3, .slice (some ⟨ba, 0, none⟩) 1 1, .int .i64 1, .slice none 0 0, .slice (some ⟨c7, 0, none⟩) 8 8, .slice (some ⟨bq, 0, none⟩) 4 4, .int .i64 0, .int .i64 100] := kB.2.1 _ kB.2.2.1
      have KA : Blk wB ba 81 [.int .u8 3, .int .i64 0] := kD.2.1 _ FR
      have KQ : Blk wB bq 3 [.int .i64 5, .int .i64 6, .int .i64 (-1), .int .i64 (-1)] := kF.2.1 _ FR
      clear kA sA qA kC sC kD sD qD kE sE kF sF qF lF kB sB kG sG
      have hT : Hid (∀ w', Ext wB w' → TermsT w' w'.heap.size ⟨.slice (some ⟨bw, 0, none⟩) 3 3, .slice (some ⟨ba, 0, none⟩) 1 1, .slice none 0 0, .slice (some ⟨c7, 0, none⟩) 8 8, .slice (some ⟨bq, 0, none⟩) 4 4⟩ (knTerms 4)) := fun w' hx' => (X3.out.ext (hx3B.trans hx')).terms4 (n := 4) (by decide) (KA.ext hx') (KQ.ext hx')
      have IB := I3.out.ext hx3B
      have hK : Hid (∀ w', Ext wB w' → Ret Tryz.prog 15 #[.agg #[.slice (some ⟨c0, 0, none⟩) 1 1, .slice (some ⟨c1, 0, none⟩) 1 1, .slice (some ⟨c2, 0, none⟩) 1 1, .slice (some ⟨c5, 0, none⟩) 2 2, .int .i64 1, .slice none 0 0, u], .agg #[.slice (some ⟨p1, 0, none⟩) 4 4, .slice (some ⟨p4, 0, none⟩) 4 4], .agg #[.slice (some ⟨bw, 0, none⟩) 3 3, .slice (some ⟨ba, 0, none⟩) 1 1, .int .i64 1, .slice none 0 0, .slice (some ⟨c7, 0, none⟩) 8 8, .slice (some ⟨bq, 0, none⟩) 4 4, .int .i64 0, .int .i64 100], .agg #[.slice (some ⟨e4, 0, none⟩) 4 4, .int .i64 9]] w' (.tuple #[.agg #[.int .u8 5, .int .i64 5, .int .i64 2], .int .i64 13])) := fun w' hx' => plan_check (IB.h.ext hx') (IB.p.ext hx') (hT.out _ hx') (row_sl (l := (knBeg 4).map intV) (IB.k4.ext hx') rfl (by simp [knBeg])) kn_check4
      clear IB hT
      have s3B := hx3B.st
      have kc := KB.bk
      have m0 := kh.2.2.2
      have rB := Ext.refl wB
      have nwB : Now wB := trivial
      unfold wpdH
      refine wpd_relS 18 [(17, 16)] (fun iI s v w9 => match iI with
        | 0 => v = .agg #[.slice (some ⟨c0, 0, none⟩) 1 1, .slice (some ⟨c1, 0, none⟩) 1 1, .slice (some ⟨c2, 0, none⟩) 1 1, .slice (some ⟨c5, 0, none⟩) 2 2, .int .i64 1, .slice none 0 0, u]
        | 1 => v = .agg #[.slice (some ⟨p1, 0, none⟩) 4 4, .slice (some ⟨p4, 0, none⟩) 4 4]
        | 2 => v = .agg #[.slice (some ⟨bw, 0, none⟩) 3 3, .slice (some ⟨ba, 0, none⟩) 1 1, .int .i64 1, .slice none 0 0, .slice (some ⟨c7, 0, none⟩) 8 8, .slice (some ⟨bq, 0, none⟩) 4 4, .int .i64 0, .int .i64 100]
        | 3 => v = .slice (some ⟨eb, 0, none⟩) 7 7
        | 4 => v = .int .i64 4
        | 5 => v = .pointer (some ⟨eb, 4, none⟩)
        | 6 => v = .slice (some ⟨e4, 0, none⟩) 4 4
        | 7 => v = .slice (some ⟨ee, 0, none⟩) 7 7
        | 8 => v = .int .i64 4
        | 9 => v = .pointer (some ⟨ee, 4, none⟩)
        | 10 => v = .int .i64 9
        | 11 => v = .agg #[.slice (some ⟨e4, 0, none⟩) 4 4, .int .i64 9]
        | 12 => v = .tuple #[.agg #[.int .u8 5, .int .i64 5, .int .i64 2], .int .i64 13]
        | 13 => v = .tuple #[.agg #[.int .u8 5, .int .i64 5, .int .i64 2], .int .i64 13]
        | 14 => v = .agg #[.int .u8 5, .int .i64 5, .int .i64 2]
        | 15 => v = .int .i64 13
        | 16 => ∃ b, v = .pointer (some ⟨b, 0, none⟩) ∧ wB.heap.size ≤ b ∧ (s = false → Blk w9 b 60 [.int .u8 0, .int .i64 0, .int .i64 0]) ∧ (s = true → Blk w9 b 60 [.int .u8 5, .int .i64 5, .int .i64 2])
        | 17 => True
        | _ => False) KR KR KR KR ?_ ?_ ?_
      · intro iI s v w1 w2 hR hx9
        match iI, hR with
        | 0, h => exact h
        | 1, h => exact h
        | 2, h => exact h
        | 3, h => exact h
        | 4, h => exact h
        | 5, h => exact h
        | 6, h => exact h
        | 7, h => exact h
        | 8, h => exact h
        | 9, h => exact h
        | 10, h => exact h
        | 11, h => exact h
        | 12, h => exact h
        | 13, h => exact h
        | 14, h => exact h
        | 15, h => exact h
        | 16, ⟨b, e, h1, h2, h3⟩ => exact ⟨b, e, h1, fun hs => (h2 hs).ext hx9, fun hs => (fun h => (h.ext hx9)) (h3 hs)⟩
        | 17, h => exact h
      · intro iI oO hi ho gF w9 S9 hx9 hdep hag
        have s9 := hx9.st
        have n9 : Now w9 := trivial
        have r9 := Ext.refl w9
        have z9 := hx9.size
        rcases iI with _|_|_|_|_|_|_|_|_|_|_|_|_|_|_|_|_|_|iI
        have e := Option.some.inj ho
        subst e
        have a1 := hag.at 1 KR
        simp only [S5, ↓reduceIte, Nat.reduceEqDiff, initF, *] at a1
        clear hag hdep ho
        refine ⟨fun _ => ?_, fun a9 pa da hal => by simp [alL] at hal⟩
        refine relStep_off rfl ?_
        rotate_left
        have e := Option.some.inj ho
        subst e
        have a2 := hag.at 2 KR
        simp only [S5, ↓reduceIte, Nat.reduceEqDiff, initF, *] at a2
        clear hag hdep ho
        refine ⟨fun _ => ?_, fun a9 pa da hal => by simp [alL] at hal⟩
        refine relStep_off rfl ?_
        rotate_left
        have e := Option.some.inj ho
        subst e
        have a8 := hag.at 8 KR
        simp only [S5, ↓reduceIte, Nat.reduceEqDiff, initF, *] at a8
        clear hag hdep ho
        refine ⟨fun _ => ?_, fun a9 pa da hal => by simp [alL] at hal⟩
        refine relStep_off rfl ?_
        rotate_left
        have e := Option.some.inj ho
        subst e
        have a3 := hag.at 3 KR
        simp only [S5, ↓reduceIte, Nat.reduceEqDiff, initF, *] at a3
        clear hag hdep ho
        refine ⟨fun _ => ?_, fun a9 pa da hal => by simp [alL] at hal⟩
        refine relStep_off rfl ?_
        rotate_left
        have e := Option.some.inj ho
        subst e
        have a7 := hag.at 7 KR
        simp only [S5, ↓reduceIte, Nat.reduceEqDiff, initF, *] at a7
        clear hag hdep ho
        refine ⟨fun _ => ?_, fun a9 pa da hal => by simp [alL] at hal⟩
        refine relStep_off rfl ?_
        rotate_left
        have e := Option.some.inj ho
        subst e
        have d3 : (gF 86) = .slice (some ⟨eb, 0, none⟩) 7 7 := hdep ⟨3, .data⟩ (by simp) rfl _ _ rfl rfl
        have d4 : (gF 87) = .int .i64 4 := hdep ⟨4, .data⟩ (by simp) rfl _ _ rfl rfl
        clear hag hdep ho
        refine ⟨fun _ => ?_, fun a9 pa da hal => by simp [alL] at hal⟩
        refine relStep_off rfl ?_
        rotate_left
        have e := Option.some.inj ho
        subst e
        have d5 : (gF 88) = .pointer (some ⟨eb, 4, none⟩) := hdep ⟨5, .data⟩ (by simp) rfl _ _ rfl rfl
        clear hag hdep ho
        refine ⟨fun _ => ?_, fun a9 pa da hal => by simp [alL] at hal⟩
        refine relStep_off rfl ?_
        rotate_left
        have e := Option.some.inj ho
        subst e
        have a4 := hag.at 4 KR
        simp only [S5, ↓reduceIte, Nat.reduceEqDiff, initF, *] at a4
        clear hag hdep ho
        refine ⟨fun _ => ?_, fun a9 pa da hal => by simp [alL] at hal⟩
        refine relStep_off rfl ?_
        rotate_left
        have e := Option.some.inj ho
        subst e
        have a7 := hag.at 7 KR
        simp only [S5, ↓reduceIte, Nat.reduceEqDiff, initF, *] at a7
        clear hag hdep ho
        refine ⟨fun _ => ?_, fun a9 pa da hal => by simp [alL] at hal⟩
        refine relStep_off rfl ?_
        rotate_left
        have e := Option.some.inj ho
        subst e
        have d7 : (gF 90) = .slice (some ⟨ee, 0, none⟩) 7 7 := hdep ⟨7, .data⟩ (by simp) rfl _ _ rfl rfl
        have d8 : (gF 91) = .int .i64 4 := hdep ⟨8, .data⟩ (by simp) rfl _ _ rfl rfl
        clear hag hdep ho
        refine ⟨fun _ => ?_, fun a9 pa da hal => by simp [alL] at hal⟩
        refine relStep_off rfl ?_
        rotate_left
        have e := Option.some.inj ho
        subst e
        have d9 : (gF 92) = .pointer (some ⟨ee, 4, none⟩) := hdep ⟨9, .data⟩ (by simp) rfl _ _ rfl rfl
        clear hag hdep ho
        refine ⟨fun _ => ?_, fun a9 pa da hal => by simp [alL] at hal⟩
        refine relStep_off rfl ?_
        rotate_left
        have e := Option.some.inj ho
        subst e
        have d6 : (gF 89) = .slice (some ⟨e4, 0, none⟩) 4 4 := hdep ⟨6, .data⟩ (by simp) rfl _ _ rfl rfl
        have d10 : (gF 93) = .int .i64 9 := hdep ⟨10, .data⟩ (by simp) rfl _ _ rfl rfl
        clear hag hdep ho
        refine ⟨fun _ => ?_, fun a9 pa da hal => by simp [alL] at hal⟩
        refine relStep_off rfl ?_
        rotate_left
        have e := Option.some.inj ho
        subst e
        have d0 : (gF 83) = .agg #[.slice (some ⟨c0, 0, none⟩) 1 1, .slice (some ⟨c1, 0, none⟩) 1 1, .slice (some ⟨c2, 0, none⟩) 1 1, .slice (some ⟨c5, 0, none⟩) 2 2, .int .i64 1, .slice none 0 0, u] := hdep ⟨0, .data⟩ (by simp) rfl _ _ rfl rfl
        have d1 : (gF 84) = .agg #[.slice (some ⟨p1, 0, none⟩) 4 4, .slice (some ⟨p4, 0, none⟩) 4 4] := hdep ⟨1, .data⟩ (by simp) rfl _ _ rfl rfl
        have d2 : (gF 85) = .agg #[.slice (some ⟨bw, 0, none⟩) 3 3, .slice (some ⟨ba, 0, none⟩) 1 1, .int .i64 1, .slice none 0 0, .slice (some ⟨c7, 0, none⟩) 8 8, .slice (some ⟨bq, 0, none⟩) 4 4, .int .i64 0, .int .i64 100] := hdep ⟨2, .data⟩ (by simp) rfl _ _ rfl rfl
        have d11 : (gF 94) = .agg #[.slice (some ⟨e4, 0, none⟩) 4 4, .int .i64 9] := hdep ⟨11, .data⟩ (by simp) rfl _ _ rfl rfl
        clear hag hdep ho
        refine ⟨fun _ => ?_, fun a9 pa da hal => by simp [alL] at hal⟩
        refine relStep_off rfl ?_
        rotate_left
        have e := Option.some.inj ho
        subst e
        have d12 : (gF 95) = .tuple #[.agg #[.int .u8 5, .int .i64 5, .int .i64 2], .int .i64 13] := hdep ⟨12, .data⟩ (by simp) rfl _ _ rfl rfl
        clear hag hdep ho
        refine ⟨fun _ => ?_, fun a9 pa da hal => by simp [alL] at hal⟩
        refine relStep_off rfl ?_
        rotate_left
        have e := Option.some.inj ho
        subst e
        have d13 : (gF 82) = .tuple #[.agg #[.int .u8 5, .int .i64 5, .int .i64 2], .int .i64 13] := hdep ⟨13, .data⟩ (by simp) rfl _ _ rfl rfl
        clear hag hdep ho
        refine ⟨fun _ => ?_, fun a9 pa da hal => by simp [alL] at hal⟩
        refine relStep_off rfl ?_
        rotate_left
        have e := Option.some.inj ho
        subst e
        have d13 : (gF 82) = .tuple #[.agg #[.int .u8 5, .int .i64 5, .int .i64 2], .int .i64 13] := hdep ⟨13, .data⟩ (by simp) rfl _ _ rfl rfl
        clear hag hdep ho
        refine ⟨fun _ => ?_, fun a9 pa da hal => by simp [alL] at hal⟩
        refine relStep_off rfl ?_
        rotate_left
        have e := Option.some.inj ho
        subst e
        clear hag hdep ho
        refine ⟨fun _ => ?_, fun a9 pa da hal => by simp [alL] at hal⟩
        refine relStep_off rfl ?_
        rotate_left
        have e := Option.some.inj ho
        subst e
        have d16 : ∃ b, (gF 9) = .pointer (some ⟨b, 0, none⟩) ∧ wB.heap.size ≤ b ∧ ((S9 16) = false → Blk w9 b 60 [.int .u8 0, .int .i64 0, .int .i64 0]) ∧ ((S9 16) = true → Blk w9 b 60 [.int .u8 5, .int .i64 5, .int .i64 2]) := hdep ⟨16, .data⟩ (by simp) rfl _ _ rfl rfl
        obtain ⟨b16, e16, q16, hz16, _⟩ := d16
        have d14 : (gF 96) = .agg #[.int .u8 5, .int .i64 5, .int .i64 2] := hdep ⟨14, .data⟩ (by simp) rfl _ _ rfl rfl
        clear hag hdep ho
        refine ⟨fun h => by simp [alL] at h, fun a9 pa da hal hS9 hpa hda => ?_⟩
        obtain rfl : 16 = a9 := by simpa [alL] using hal
        obtain rfl := Option.some.inj hpa
        obtain rfl := Option.some.inj hda
        have hz := hz16 hS9
        clear hal hpa hda hz16
        refine relStep_off rfl ?_
        rotate_left
        · omega
        all_goals (repeat' ((fail_if_success (with_reducible first | refine stop_h ?_ | refine stop_c ?_ | refine stop_s ?_ | refine stop_i ?_ | refine stop_l ?_ | refine stop_m ?_ | refine stop_o ?_ | refine stop_n ?_ | refine stop_e ?_ | refine stop_b ?_)); first
    | with_reducible first | exact ⟨⟩ | (refine gB ?_; intros) | refine gT ?_ ?_
    | refine gs ?_
    | refine sx ?_))
        all_goals first
          | (refine CallsV.mono (hK.out _ hx9) fun v w10 hh => ⟨hh.2, hh.1⟩)
          | (rename_i b10 w10 n10 k10 s10 q10; exact ⟨_, rfl, FR, fun _ => k10.2.1 _ k10.2.2.1, fun h => absurd h (by decide)⟩)
          | (
              refine stT_agg (w0 := w9) (vs := [.int .u8 5, .int .i64 5, .int .i64 2]) hz rfl KR rfl (by simp [one_int, Value.oneCell']) fun w10 hb10 hc => ⟨b16, hc, q16, ⟨b16, (by first | exact e16 | rfl), q16, fun h => absurd h (by decide), fun _ => hb10⟩, ?_⟩
              intro iI s v hne hR
              match iI, hR with
              | 0, h | 1, h | 2, h | 3, h | 4, h | 5, h | 6, h | 7, h | 8, h | 9, h | 10, h | 11, h | 13, h | 14, h | 15, h | 17, h => exact h
              | 12, h => exact h
              | 16, _ => exact absurd rfl hne)
      · intro g9 w9 hx9 hR hag
        have s9 := hx9.st
        have n9 : Now w9 := trivial
        have r9 := Ext.refl w9
        have z9 := hx9.size
        have d15 : (g9 97) = .int .i64 13 := hR 15 _ _ (by decide) rfl rfl
        have d16 : ∃ b, (g9 9) = .pointer (some ⟨b, 0, none⟩) ∧ wB.heap.size ≤ b ∧ (true = false → Blk w9 b 60 [.int .u8 0, .int .i64 0, .int .i64 0]) ∧ (true = true → Blk w9 b 60 [.int .u8 5, .int .i64 5, .int .i64 2]) := hR 16 _ _ (by decide) rfl rfl
        obtain ⟨b16, e16, q16, _, f16⟩ := d16
        replace f16 := f16 rfl
        have nw16 := Nw.of q16
        have K11 := f16.bk
        have a1 := hag.at 1 KR
        have a2 := hag.at 2 KR
        have a3 := hag.at 3 KR
        have a4 := hag.at 4 KR
        have a5 := hag.at 5 KR
        have a6 := hag.at 6 KR
        have a7 := hag.at 7 KR
        simp only [S5, ↓reduceIte, Nat.reduceEqDiff, initF, *] at a1 a2 a3 a4 a5 a6 a7
        clear hag hR
        simp only [List.drop_succ_cons, List.drop_zero]
        have hxk9 : Hid (Ext wk w9) := hx3.trans (hx3B.trans hx9)
        clear hK KB
        (repeat' ((fail_if_success (with_reducible first | refine stop_h ?_ | refine stop_c ?_ | refine stop_s ?_ | refine stop_i ?_ | refine stop_l ?_ | refine stop_m ?_ | refine stop_o ?_ | refine stop_n ?_ | refine stop_e ?_ | refine stop_b ?_)); first
    | with_reducible first | exact ⟨⟩ | (refine gB ?_; intros) | refine gT ?_ ?_
    | refine gs ?_
    | refine sx ?_))
        refine next_g hk3 hlt ?_
        (repeat' ((fail_if_success (with_reducible first | refine stop_h ?_ | refine stop_c ?_ | refine stop_s ?_ | refine stop_i ?_ | refine stop_l ?_ | refine stop_m ?_ | refine stop_o ?_ | refine stop_n ?_ | refine stop_e ?_ | refine stop_b ?_)); first
    | with_reducible first | exact ⟨⟩ | (refine gB ?_; intros) | refine gT ?_ ?_
    | refine gs ?_
    | refine sx ?_))
        all_goals exact ⟨rfl, trivial⟩
    · have hi3' : g3 7 = .int .i64 5 := hi3
      clear hi3
      have ht : Int.toNat 5 = 5 := rfl
      have h7 : (5 : Int) < ((7 : Nat) : Int) := by decide
      (repeat' ((fail_if_success (with_reducible first | refine stop_h ?_ | refine stop_c ?_ | refine stop_s ?_ | refine stop_i ?_ | refine stop_l ?_ | refine stop_m ?_ | refine stop_o ?_ | refine stop_n ?_ | refine stop_e ?_ | refine stop_b ?_)); first
    | ((with_reducible refine wpd_at 16 ?_); refine wpd_hold ?_)
    | with_reducible first | exact ⟨⟩ | (refine gB ?_; intros) | refine gT ?_ ?_
    | refine gs ?_
    | refine sx ?_))
      rename_i tb wA nA kA sA qA wC nC kC sC ba wD nD kD sD qD
      have hne1 : ¬ ba = tb := by have h1 := (show Blk wC tb _ _ from kC.2.1 _ kC.2.2.1).lt; have h2 := (show wC.heap.size ≤ ba from FR); omega
      refine st_one (i := 1) KR (by simp) rfl fun wE nE kE sE => ?_
      simp only [List.set_cons_succ, List.set_cons_zero] at kE
      (repeat' ((fail_if_success (with_reducible first | refine stop_h ?_ | refine stop_c ?_ | refine stop_s ?_ | refine stop_i ?_ | refine stop_l ?_ | refine stop_m ?_ | refine stop_o ?_ | refine stop_n ?_ | refine stop_e ?_ | refine stop_b ?_)); first
    | ((with_reducible refine wpd_at 16 ?_); refine wpd_hold ?_)
    | with_reducible first | exact ⟨⟩ | (refine gB ?_; intros) | refine gT ?_ ?_
    | refine gs ?_
    | refine sx ?_))
      rename_i bq wF nF kF sF qF lF
      have hne2 : ¬ bq = tb := by have h1 := (show Blk wE tb _ _ from kE.2.1 _ kE.2.2.1).lt; have h2 := (show wE.heap.size ≤ bq from FR); omega
      refine st_one (i := 5) KR (by simp) rfl fun wG nG kG sG => ?_
      simp only [List.set_cons_succ, List.set_cons_zero] at kG
      (repeat' ((fail_if_success (with_reducible first | refine stop_h ?_ | refine stop_c ?_ | refine stop_s ?_ | refine stop_i ?_ | refine stop_l ?_ | refine stop_m ?_ | refine stop_o ?_ | refine stop_n ?_ | refine stop_e ?_ | refine stop_b ?_)); first
    | ((with_reducible refine wpd_at 16 ?_); refine wpd_hold ?_)
    | with_reducible first | exact ⟨⟩ | (refine gB ?_; intros) | refine gT ?_ ?_
    | refine gs ?_
    | refine sx ?_))
      refine st_one (i := 2) KR (by simp) rfl fun wB nB kB sB => ?_
      simp only [List.set_cons_succ, List.set_cons_zero] at kB
      (repeat' ((fail_if_success (with_reducible first | refine stop_h ?_ | refine stop_c ?_ | refine stop_s ?_ | refine stop_i ?_ | refine stop_l ?_ | refine stop_m ?_ | refine stop_o ?_ | refine stop_n ?_ | refine stop_e ?_ | refine stop_b ?_)); first
    | ((with_reducible refine wpd_at 16 ?_); refine wpd_hold ?_)
    | with_reducible first | exact ⟨⟩ | (refine gB ?_; intros) | refine gT ?_ ?_
    | refine gs ?_
    | refine sx ?_))
      have hx3B : Ext w3 wB := FR
      have KB : Blk wB tb 41 [.slice (some ⟨bw, 0, none⟩) 3 3, .slice (some ⟨ba, 0, none⟩) 1 1, .int .i64 1, .slice none 0 0, .slice (some ⟨c7, 0, none⟩) 8 8, .slice (some ⟨bq, 0, none⟩) 4 4, .int .i64 0, .int .i64 100] := kB.2.1 _ kB.2.2.1
      have KA : Blk wB ba 81 [.int .u8 3, .int .i64 0] := kD.2.1 _ FR
      have KQ : Blk wB bq 3 [.int .i64 5, .int .i64 6, .int .i64 (-1), .int .i64 (-1)] := kF.2.1 _ FR
      clear kA sA qA kC sC kD sD qD kE sE kF sF qF lF kB sB kG sG
      have hT : Hid (∀ w', Ext wB w' → TermsT w' w'.heap.size ⟨.slice (some ⟨bw, 0, none⟩) 3 3, .slice (some ⟨ba, 0, none⟩) 1 1, .slice none 0 0, .slice (some ⟨c7, 0, none⟩) 8 8, .slice (some ⟨bq, 0, none⟩) 4 4⟩ (knTerms 5)) := fun w' hx' => (X3.out.ext (hx3B.trans hx')).terms4 (n := 5) (by decide) (KA.ext hx') (KQ.ext hx')
      have IB := I3.out.ext hx3B
      have hK : Hid (∀ w', Ext wB w' → Ret Tryz.prog 15 #[.agg #[.slice (some ⟨c0, 0, none⟩) 1 1, .slice (some ⟨c1, 0, none⟩) 1 1, .slice (some ⟨c2, 0, none⟩) 1 1, .slice (some ⟨c5, 0, none⟩) 2 2, .int .i64 1, .slice none 0 0, u], .agg #[.slice (some ⟨p1, 0, none⟩) 4 4, .slice (some ⟨p4, 0, none⟩) 4 4], .agg #[.slice (some ⟨bw, 0, none⟩) 3 3, .slice (some ⟨ba, 0, none⟩) 1 1, .int .i64 1, .slice none 0 0, .slice (some ⟨c7, 0, none⟩) 8 8, .slice (some ⟨bq, 0, none⟩) 4 4, .int .i64 0, .int .i64 100], .agg #[.slice (some ⟨e5, 0, none⟩) 4 4, .int .i64 12]] w' (.tuple #[.agg #[.int .u8 6, .int .i64 0, .int .i64 0], .int .i64 13])) := fun w' hx' => plan_check (IB.h.ext hx') (IB.p.ext hx') (hT.out _ hx') (row_sl (l := (knBeg 5).map intV) (IB.k5.ext hx') rfl (by simp [knBeg])) kn_check5
      clear IB hT
      have s3B := hx3B.st
      have kc := KB.bk
      have m0 := kh.2.2.2
      have rB := Ext.refl wB
      have nwB : Now wB := trivial
      unfold wpdH
      refine wpd_relS 18 [(17, 16)] (fun iI s v w9 => match iI with
        | 0 => v = .agg #[.slice (some ⟨c0, 0, none⟩) 1 1, .slice (some ⟨c1, 0, none⟩) 1 1, .slice (some ⟨c2, 0, none⟩) 1 1, .slice (some ⟨c5, 0, none⟩) 2 2, .int .i64 1, .slice none 0 0, u]
        | 1 => v = .agg #[.slice (some ⟨p1, 0, none⟩) 4 4, .slice (some ⟨p4, 0, none⟩) 4 4]
        | 2 => v = .agg #[.slice (some ⟨bw, 0, none⟩) 3 3, .slice (some ⟨ba, 0, none⟩) 1 1, .int .i64 1, .slice none 0 0, .slice (some ⟨c7, 0, none⟩) 8 8, .slice (some ⟨bq, 0, none⟩) 4 4, .int .i64 0, .int .i64 100]
        | 3 => v = .slice (some ⟨eb, 0, none⟩) 7 7
        | 4 => v = .int .i64 5
        | 5 => v = .pointer (some ⟨eb, 5, none⟩)
        | 6 => v = .slice (some ⟨e5, 0, none⟩) 4 4
        | 7 => v = .slice (some ⟨ee, 0, none⟩) 7 7
        | 8 => v = .int .i64 5
        | 9 => v = .pointer (some ⟨ee, 5, none⟩)
        | 10 => v = .int .i64 12
        | 11 => v = .agg #[.slice (some ⟨e5, 0, none⟩) 4 4, .int .i64 12]
        | 12 => v = .tuple #[.agg #[.int .u8 6, .int .i64 0, .int .i64 0], .int .i64 13]
        | 13 => v = .tuple #[.agg #[.int .u8 6, .int .i64 0, .int .i64 0], .int .i64 13]
        | 14 => v = .agg #[.int .u8 6, .int .i64 0, .int .i64 0]
        | 15 => v = .int .i64 13
        | 16 => ∃ b, v = .pointer (some ⟨b, 0, none⟩) ∧ wB.heap.size ≤ b ∧ (s = false → Blk w9 b 60 [.int .u8 0, .int .i64 0, .int .i64 0]) ∧ (s = true → Blk w9 b 60 [.int .u8 6, .int .i64 0, .int .i64 0])
        | 17 => True
        | _ => False) KR KR KR KR ?_ ?_ ?_
      · intro iI s v w1 w2 hR hx9
        match iI, hR with
        | 0, h => exact h
        | 1, h => exact h
        | 2, h => exact h
        | 3, h => exact h
        | 4, h => exact h
        | 5, h => exact h
        | 6, h => exact h
        | 7, h => exact h
        | 8, h => exact h
        | 9, h => exact h
        | 10, h => exact h
        | 11, h => exact h
        | 12, h => exact h
        | 13, h => exact h
        | 14, h => exact h
        | 15, h => exact h
        | 16, ⟨b, e, h1, h2, h3⟩ => exact ⟨b, e, h1, fun hs => (h2 hs).ext hx9, fun hs => (fun h => (h.ext hx9)) (h3 hs)⟩
        | 17, h => exact h
      · intro iI oO hi ho gF w9 S9 hx9 hdep hag
        have s9 := hx9.st
        have n9 : Now w9 := trivial
        have r9 := Ext.refl w9
        have z9 := hx9.size
        rcases iI with _|_|_|_|_|_|_|_|_|_|_|_|_|_|_|_|_|_|iI
        have e := Option.some.inj ho
        subst e
        have a1 := hag.at 1 KR
        simp only [S5, ↓reduceIte, Nat.reduceEqDiff, initF, *] at a1
        clear hag hdep ho
        refine ⟨fun _ => ?_, fun a9 pa da hal => by simp [alL] at hal⟩
        refine relStep_off rfl ?_
        rotate_left
        have e := Option.some.inj ho
        subst e
        have a2 := hag.at 2 KR
        simp only [S5, ↓reduceIte, Nat.reduceEqDiff, initF, *] at a2
        clear hag hdep ho
        refine ⟨fun _ => ?_, fun a9 pa da hal => by simp [alL] at hal⟩
        refine relStep_off rfl ?_
        rotate_left
        have e := Option.some.inj ho
        subst e
        have a8 := hag.at 8 KR
        simp only [S5, ↓reduceIte, Nat.reduceEqDiff, initF, *] at a8
        clear hag hdep ho
        refine ⟨fun _ => ?_, fun a9 pa da hal => by simp [alL] at hal⟩
        refine relStep_off rfl ?_
        rotate_left
        have e := Option.some.inj ho
        subst e
        have a3 := hag.at 3 KR
        simp only [S5, ↓reduceIte, Nat.reduceEqDiff, initF, *] at a3
        clear hag hdep ho
        refine ⟨fun _ => ?_, fun a9 pa da hal => by simp [alL] at hal⟩
        refine relStep_off rfl ?_
        rotate_left
        have e := Option.some.inj ho
        subst e
        have a7 := hag.at 7 KR
        simp only [S5, ↓reduceIte, Nat.reduceEqDiff, initF, *] at a7
        clear hag hdep ho
        refine ⟨fun _ => ?_, fun a9 pa da hal => by simp [alL] at hal⟩
        refine relStep_off rfl ?_
        rotate_left
        have e := Option.some.inj ho
        subst e
        have d3 : (gF 86) = .slice (some ⟨eb, 0, none⟩) 7 7 := hdep ⟨3, .data⟩ (by simp) rfl _ _ rfl rfl
        have d4 : (gF 87) = .int .i64 5 := hdep ⟨4, .data⟩ (by simp) rfl _ _ rfl rfl
        clear hag hdep ho
        refine ⟨fun _ => ?_, fun a9 pa da hal => by simp [alL] at hal⟩
        refine relStep_off rfl ?_
        rotate_left
        have e := Option.some.inj ho
        subst e
        have d5 : (gF 88) = .pointer (some ⟨eb, 5, none⟩) := hdep ⟨5, .data⟩ (by simp) rfl _ _ rfl rfl
        clear hag hdep ho
        refine ⟨fun _ => ?_, fun a9 pa da hal => by simp [alL] at hal⟩
        refine relStep_off rfl ?_
        rotate_left
        have e := Option.some.inj ho
        subst e
        have a4 := hag.at 4 KR
        simp only [S5, ↓reduceIte, Nat.reduceEqDiff, initF, *] at a4
        clear hag hdep ho
        refine ⟨fun _ => ?_, fun a9 pa da hal => by simp [alL] at hal⟩
        refine relStep_off rfl ?_
        rotate_left
        have e := Option.some.inj ho
        subst e
        have a7 := hag.at 7 KR
        simp only [S5, ↓reduceIte, Nat.reduceEqDiff, initF, *] at a7
        clear hag hdep ho
        refine ⟨fun _ => ?_, fun a9 pa da hal => by simp [alL] at hal⟩
        refine relStep_off rfl ?_
        rotate_left
        have e := Option.some.inj ho
        subst e
        have d7 : (gF 90) = .slice (some ⟨ee, 0, none⟩) 7 7 := hdep ⟨7, .data⟩ (by simp) rfl _ _ rfl rfl
        have d8 : (gF 91) = .int .i64 5 := hdep ⟨8, .data⟩ (by simp) rfl _ _ rfl rfl
        clear hag hdep ho
        refine ⟨fun _ => ?_, fun a9 pa da hal => by simp [alL] at hal⟩
        refine relStep_off rfl ?_
        rotate_left
        have e := Option.some.inj ho
        subst e
        have d9 : (gF 92) = .pointer (some ⟨ee, 5, none⟩) := hdep ⟨9, .data⟩ (by simp) rfl _ _ rfl rfl
        clear hag hdep ho
        refine ⟨fun _ => ?_, fun a9 pa da hal => by simp [alL] at hal⟩
        refine relStep_off rfl ?_
        rotate_left
        have e := Option.some.inj ho
        subst e
        have d6 : (gF 89) = .slice (some ⟨e5, 0, none⟩) 4 4 := hdep ⟨6, .data⟩ (by simp) rfl _ _ rfl rfl
        have d10 : (gF 93) = .int .i64 12 := hdep ⟨10, .data⟩ (by simp) rfl _ _ rfl rfl
        clear hag hdep ho
        refine ⟨fun _ => ?_, fun a9 pa da hal => by simp [alL] at hal⟩
        refine relStep_off rfl ?_
        rotate_left
        have e := Option.some.inj ho
        subst e
        have d0 : (gF 83) = .agg #[.slice (some ⟨c0, 0, none⟩) 1 1, .slice (some ⟨c1, 0, none⟩) 1 1, .slice (some ⟨c2, 0, none⟩) 1 1, .slice (some ⟨c5, 0, none⟩) 2 2, .int .i64 1, .slice none 0 0, u] := hdep ⟨0, .data⟩ (by simp) rfl _ _ rfl rfl
        have d1 : (gF 84) = .agg #[.slice (some ⟨p1, 0, none⟩) 4 4, .slice (some ⟨p4, 0, none⟩) 4 4] := hdep ⟨1, .data⟩ (by simp) rfl _ _ rfl rfl
        have d2 : (gF 85) = .agg #[.slice (some ⟨bw, 0, none⟩) 3 3, .slice (some ⟨ba, 0, none⟩) 1 1, .int .i64 1, .slice none 0 0, .slice (some ⟨c7, 0, none⟩) 8 8, .slice (some ⟨bq, 0, none⟩) 4 4, .int .i64 0, .int .i64 100] := hdep ⟨2, .data⟩ (by simp) rfl _ _ rfl rfl
        have d11 : (gF 94) = .agg #[.slice (some ⟨e5, 0, none⟩) 4 4, .int .i64 12] := hdep ⟨11, .data⟩ (by simp) rfl _ _ rfl rfl
        clear hag hdep ho
        refine ⟨fun _ => ?_, fun a9 pa da hal => by simp [alL] at hal⟩
        refine relStep_off rfl ?_
        rotate_left
        have e := Option.some.inj ho
        subst e
        have d12 : (gF 95) = .tuple #[.agg #[.int .u8 6, .int .i64 0, .int .i64 0], .int .i64 13] := hdep ⟨12, .data⟩ (by simp) rfl _ _ rfl rfl
        clear hag hdep ho
        refine ⟨fun _ => ?_, fun a9 pa da hal => by simp [alL] at hal⟩
        refine relStep_off rfl ?_
        rotate_left
        have e := Option.some.inj ho
        subst e
        have d13 : (gF 82) = .tuple #[.agg #[.int .u8 6, .int .i64 0, .int .i64 0], .int .i64 13] := hdep ⟨13, .data⟩ (by simp) rfl _ _ rfl rfl
        clear hag hdep ho
        refine ⟨fun _ => ?_, fun a9 pa da hal => by simp [alL] at hal⟩
        refine relStep_off rfl ?_
        rotate_left
        have e := Option.some.inj ho
        subst e
        have d13 : (gF 82) = .tuple #[.agg #[.int .u8 6, .int .i64 0, .int .i64 0], .int .i64 13] := hdep ⟨13, .data⟩ (by simp) rfl _ _ rfl rfl
        clear hag hdep ho
        refine ⟨fun _ => ?_, fun a9 pa da hal => by simp [alL] at hal⟩
        refine relStep_off rfl ?_
        rotate_left
        have e := Option.some.inj ho
        subst e
        clear hag hdep ho
        refine ⟨fun _ => ?_, fun a9 pa da hal => by simp [alL] at hal⟩
        refine relStep_off rfl ?_
        rotate_left
        have e := Option.some.inj ho
        subst e
        have d16 : ∃ b, (gF 9) = .pointer (some ⟨b, 0, none⟩) ∧ wB.heap.size ≤ b ∧ ((S9 16) = false → Blk w9 b 60 [.int .u8 0, .int .i64 0, .int .i64 0]) ∧ ((S9 16) = true → Blk w9 b 60 [.int .u8 6, .int .i64 0, .int .i64 0]) := hdep ⟨16, .data⟩ (by simp) rfl _ _ rfl rfl
        obtain ⟨b16, e16, q16, hz16, _⟩ := d16
        have d14 : (gF 96) = .agg #[.int .u8 6, .int .i64 0, .int .i64 0] := hdep ⟨14, .data⟩ (by simp) rfl _ _ rfl rfl
        clear hag hdep ho
        refine ⟨fun h => by simp [alL] at h, fun a9 pa da hal hS9 hpa hda => ?_⟩
        obtain rfl : 16 = a9 := by simpa [alL] using hal
        obtain rfl := Option.some.inj hpa
        obtain rfl := Option.some.inj hda
        have hz := hz16 hS9
        clear hal hpa hda hz16
        refine relStep_off rfl ?_
        rotate_left
        · omega
        all_goals (repeat' ((fail_if_success (with_reducible first | refine stop_h ?_ | refine stop_c ?_ | refine stop_s ?_ | refine stop_i ?_ | refine stop_l ?_ | refine stop_m ?_ | refine stop_o ?_ | refine stop_n ?_ | refine stop_e ?_ | refine stop_b ?_)); first
    | with_reducible first | exact ⟨⟩ | (refine gB ?_; intros) | refine gT ?_ ?_
    | refine gs ?_
    | refine sx ?_))
        all_goals first
          | (refine CallsV.mono (hK.out _ hx9) fun v w10 hh => ⟨hh.2, hh.1⟩)
          | (rename_i b10 w10 n10 k10 s10 q10; exact ⟨_, rfl, FR, fun _ => k10.2.1 _ k10.2.2.1, fun h => absurd h (by decide)⟩)
          | (
              refine stT_agg (w0 := w9) (vs := [.int .u8 6, .int .i64 0, .int .i64 0]) hz rfl KR rfl (by simp [one_int, Value.oneCell']) fun w10 hb10 hc => ⟨b16, hc, q16, ⟨b16, (by first | exact e16 | rfl), q16, fun h => absurd h (by decide), fun _ => hb10⟩, ?_⟩
              intro iI s v hne hR
              match iI, hR with
              | 0, h | 1, h | 2, h | 3, h | 4, h | 5, h | 6, h | 7, h | 8, h | 9, h | 10, h | 11, h | 13, h | 14, h | 15, h | 17, h => exact h
              | 12, h => exact h
              | 16, _ => exact absurd rfl hne)
      · intro g9 w9 hx9 hR hag
        have s9 := hx9.st
        have n9 : Now w9 := trivial
        have r9 := Ext.refl w9
        have z9 := hx9.size
        have d15 : (g9 97) = .int .i64 13 := hR 15 _ _ (by decide) rfl rfl
        have d16 : ∃ b, (g9 9) = .pointer (some ⟨b, 0, none⟩) ∧ wB.heap.size ≤ b ∧ (true = false → Blk w9 b 60 [.int .u8 0, .int .i64 0, .int .i64 0]) ∧ (true = true → Blk w9 b 60 [.int .u8 6, .int .i64 0, .int .i64 0]) := hR 16 _ _ (by decide) rfl rfl
        obtain ⟨b16, e16, q16, _, f16⟩ := d16
        replace f16 := f16 rfl
        have nw16 := Nw.of q16
        have K11 := f16.bk
        have a1 := hag.at 1 KR
        have a2 := hag.at 2 KR
        have a3 := hag.at 3 KR
        have a4 := hag.at 4 KR
        have a5 := hag.at 5 KR
        have a6 := hag.at 6 KR
        have a7 := hag.at 7 KR
        simp only [S5, ↓reduceIte, Nat.reduceEqDiff, initF, *] at a1 a2 a3 a4 a5 a6 a7
        clear hag hR
        simp only [List.drop_succ_cons, List.drop_zero]
        have hxk9 : Hid (Ext wk w9) := hx3.trans (hx3B.trans hx9)
        clear hK KB
        (repeat' ((fail_if_success (with_reducible first | refine stop_h ?_ | refine stop_c ?_ | refine stop_s ?_ | refine stop_i ?_ | refine stop_l ?_ | refine stop_m ?_ | refine stop_o ?_ | refine stop_n ?_ | refine stop_e ?_ | refine stop_b ?_)); first
    | with_reducible first | exact ⟨⟩ | (refine gB ?_; intros) | refine gT ?_ ?_
    | refine gs ?_
    | refine sx ?_))
        refine next_g hk3 hlt ?_
        (repeat' ((fail_if_success (with_reducible first | refine stop_h ?_ | refine stop_c ?_ | refine stop_s ?_ | refine stop_i ?_ | refine stop_l ?_ | refine stop_m ?_ | refine stop_o ?_ | refine stop_n ?_ | refine stop_e ?_ | refine stop_b ?_)); first
    | with_reducible first | exact ⟨⟩ | (refine gB ?_; intros) | refine gT ?_ ?_
    | refine gs ?_
    | refine sx ?_))
        all_goals exact ⟨rfl, trivial⟩
    · have hi3' : g3 7 = .int .i64 6 := hi3
      clear hi3
      have ht : Int.toNat 6 = 6 := rfl
      have h7 : (6 : Int) < ((7 : Nat) : Int) := by decide
      (repeat' ((fail_if_success (with_reducible first | refine stop_h ?_ | refine stop_c ?_ | refine stop_s ?_ | refine stop_i ?_ | refine stop_l ?_ | refine stop_m ?_ | refine stop_o ?_ | refine stop_n ?_ | refine stop_e ?_ | refine stop_b ?_)); first
    | ((with_reducible refine wpd_at 16 ?_); refine wpd_hold ?_)
    | with_reducible first | exact ⟨⟩ | (refine gB ?_; intros) | refine gT ?_ ?_
    | refine gs ?_
    | refine sx ?_))
      rename_i tb wA nA kA sA qA wC nC kC sC ba wD nD kD sD qD
      have hne1 : ¬ ba = tb := by have h1 := (show Blk wC tb _ _ from kC.2.1 _ kC.2.2.1).lt; have h2 := (show wC.heap.size ≤ ba from FR); omega
      refine st_one (i := 1) KR (by simp) rfl fun wE nE kE sE => ?_
      simp only [List.set_cons_succ, List.set_cons_zero] at kE
      (repeat' ((fail_if_success (with_reducible first | refine stop_h ?_ | refine stop_c ?_ | refine stop_s ?_ | refine stop_i ?_ | refine stop_l ?_ | refine stop_m ?_ | refine stop_o ?_ | refine stop_n ?_ | refine stop_e ?_ | refine stop_b ?_)); first
    | ((with_reducible refine wpd_at 16 ?_); refine wpd_hold ?_)
    | with_reducible first | exact ⟨⟩ | (refine gB ?_; intros) | refine gT ?_ ?_
    | refine gs ?_
    | refine sx ?_))
      rename_i bq wF nF kF sF qF lF
      have hne2 : ¬ bq = tb := by have h1 := (show Blk wE tb _ _ from kE.2.1 _ kE.2.2.1).lt; have h2 := (show wE.heap.size ≤ bq from FR); omega
      refine st_one (i := 5) KR (by simp) rfl fun wG nG kG sG => ?_
      simp only [List.set_cons_succ, List.set_cons_zero] at kG
      (repeat' ((fail_if_success (with_reducible first | refine stop_h ?_ | refine stop_c ?_ | refine stop_s ?_ | refine stop_i ?_ | refine stop_l ?_ | refine stop_m ?_ | refine stop_o ?_ | refine stop_n ?_ | refine stop_e ?_ | refine stop_b ?_)); first
    | ((with_reducible refine wpd_at 16 ?_); refine wpd_hold ?_)
    | with_reducible first | exact ⟨⟩ | (refine gB ?_; intros) | refine gT ?_ ?_
    | refine gs ?_
    | refine sx ?_))
      refine st_one (i := 2) KR (by simp) rfl fun wB nB kB sB => ?_
      simp only [List.set_cons_succ, List.set_cons_zero] at kB
      (repeat' ((fail_if_success (with_reducible first | refine stop_h ?_ | refine stop_c ?_ | refine stop_s ?_ | refine stop_i ?_ | refine stop_l ?_ | refine stop_m ?_ | refine stop_o ?_ | refine stop_n ?_ | refine stop_e ?_ | refine stop_b ?_)); first
    | ((with_reducible refine wpd_at 16 ?_); refine wpd_hold ?_)
    | with_reducible first | exact ⟨⟩ | (refine gB ?_; intros) | refine gT ?_ ?_
    | refine gs ?_
    | refine sx ?_))
      have hx3B : Ext w3 wB := FR
      have KB : Blk wB tb 41 [.slice (some ⟨bw, 0, none⟩) 3 3, .slice (some ⟨ba, 0, none⟩) 1 1, .int .i64 1, .slice none 0 0, .slice (some ⟨c7, 0, none⟩) 8 8, .slice (some ⟨bq, 0, none⟩) 4 4, .int .i64 0, .int .i64 100] := kB.2.1 _ kB.2.2.1
      have KA : Blk wB ba 81 [.int .u8 3, .int .i64 0] := kD.2.1 _ FR
      have KQ : Blk wB bq 3 [.int .i64 5, .int .i64 6, .int .i64 (-1), .int .i64 (-1)] := kF.2.1 _ FR
      clear kA sA qA kC sC kD sD qD kE sE kF sF qF lF kB sB kG sG
      have hT : Hid (∀ w', Ext wB w' → TermsT w' w'.heap.size ⟨.slice (some ⟨bw, 0, none⟩) 3 3, .slice (some ⟨ba, 0, none⟩) 1 1, .slice none 0 0, .slice (some ⟨c7, 0, none⟩) 8 8, .slice (some ⟨bq, 0, none⟩) 4 4⟩ (knTerms 6)) := fun w' hx' => (X3.out.ext (hx3B.trans hx')).terms4 (n := 6) (by decide) (KA.ext hx') (KQ.ext hx')
      have IB := I3.out.ext hx3B
      have hK : Hid (∀ w', Ext wB w' → Ret Tryz.prog 15 #[.agg #[.slice (some ⟨c0, 0, none⟩) 1 1, .slice (some ⟨c1, 0, none⟩) 1 1, .slice (some ⟨c2, 0, none⟩) 1 1, .slice (some ⟨c5, 0, none⟩) 2 2, .int .i64 1, .slice none 0 0, u], .agg #[.slice (some ⟨p1, 0, none⟩) 4 4, .slice (some ⟨p4, 0, none⟩) 4 4], .agg #[.slice (some ⟨bw, 0, none⟩) 3 3, .slice (some ⟨ba, 0, none⟩) 1 1, .int .i64 1, .slice none 0 0, .slice (some ⟨c7, 0, none⟩) 8 8, .slice (some ⟨bq, 0, none⟩) 4 4, .int .i64 0, .int .i64 100], .agg #[.slice (some ⟨e6, 0, none⟩) 4 4, .int .i64 13]] w' (.tuple #[.agg #[.int .u8 0, .int .i64 0, .int .i64 0], .int .i64 0])) := fun w' hx' => plan_check (IB.h.ext hx') (IB.p.ext hx') (hT.out _ hx') (row_sl (l := (knBeg 6).map intV) (IB.k6.ext hx') rfl (by simp [knBeg])) kn_check6
      clear IB hT
      have s3B := hx3B.st
      have kc := KB.bk
      have m0 := kh.2.2.2
      have rB := Ext.refl wB
      have nwB : Now wB := trivial
      unfold wpdH
      refine wpd_relS 18 [(17, 16)] (fun iI s v w9 => match iI with
        | 0 => v = .agg #[.slice (some ⟨c0, 0, none⟩) 1 1, .slice (some ⟨c1, 0, none⟩) 1 1, .slice (some ⟨c2, 0, none⟩) 1 1, .slice (some ⟨c5, 0, none⟩) 2 2, .int .i64 1, .slice none 0 0, u]
        | 1 => v = .agg #[.slice (some ⟨p1, 0, none⟩) 4 4, .slice (some ⟨p4, 0, none⟩) 4 4]
        | 2 => v = .agg #[.slice (some ⟨bw, 0, none⟩) 3 3, .slice (some ⟨ba, 0, none⟩) 1 1, .int .i64 1, .slice none 0 0, .slice (some ⟨c7, 0, none⟩) 8 8, .slice (some ⟨bq, 0, none⟩) 4 4, .int .i64 0, .int .i64 100]
        | 3 => v = .slice (some ⟨eb, 0, none⟩) 7 7
        | 4 => v = .int .i64 6
        | 5 => v = .pointer (some ⟨eb, 6, none⟩)
        | 6 => v = .slice (some ⟨e6, 0, none⟩) 4 4
        | 7 => v = .slice (some ⟨ee, 0, none⟩) 7 7
        | 8 => v = .int .i64 6
        | 9 => v = .pointer (some ⟨ee, 6, none⟩)
        | 10 => v = .int .i64 13
        | 11 => v = .agg #[.slice (some ⟨e6, 0, none⟩) 4 4, .int .i64 13]
        | 12 => v = .tuple #[.agg #[.int .u8 0, .int .i64 0, .int .i64 0], .int .i64 0]
        | 13 => v = .tuple #[.agg #[.int .u8 0, .int .i64 0, .int .i64 0], .int .i64 0]
        | 14 => v = .agg #[.int .u8 0, .int .i64 0, .int .i64 0]
        | 15 => v = .int .i64 0
        | 16 => ∃ b, v = .pointer (some ⟨b, 0, none⟩) ∧ wB.heap.size ≤ b ∧ (s = false → Blk w9 b 60 [.int .u8 0, .int .i64 0, .int .i64 0]) ∧ (s = true → Blk w9 b 60 [.int .u8 0, .int .i64 0, .int .i64 0])
        | 17 => True
        | _ => False) KR KR KR KR ?_ ?_ ?_
      · intro iI s v w1 w2 hR hx9
        match iI, hR with
        | 0, h => exact h
        | 1, h => exact h
        | 2, h => exact h
        | 3, h => exact h
        | 4, h => exact h
        | 5, h => exact h
        | 6, h => exact h
        | 7, h => exact h
        | 8, h => exact h
        | 9, h => exact h
        | 10, h => exact h
        | 11, h => exact h
        | 12, h => exact h
        | 13, h => exact h
        | 14, h => exact h
        | 15, h => exact h
        | 16, ⟨b, e, h1, h2, h3⟩ => exact ⟨b, e, h1, fun hs => (h2 hs).ext hx9, fun hs => (fun h => (h.ext hx9)) (h3 hs)⟩
        | 17, h => exact h
      · intro iI oO hi ho gF w9 S9 hx9 hdep hag
        have s9 := hx9.st
        have n9 : Now w9 := trivial
        have r9 := Ext.refl w9
        have z9 := hx9.size
        rcases iI with _|_|_|_|_|_|_|_|_|_|_|_|_|_|_|_|_|_|iI
        have e := Option.some.inj ho
        subst e
        have a1 := hag.at 1 KR
        simp only [S5, ↓reduceIte, Nat.reduceEqDiff, initF, *] at a1
        clear hag hdep ho
        refine ⟨fun _ => ?_, fun a9 pa da hal => by simp [alL] at hal⟩
        refine relStep_off rfl ?_
        rotate_left
        have e := Option.some.inj ho
        subst e
        have a2 := hag.at 2 KR
        simp only [S5, ↓reduceIte, Nat.reduceEqDiff, initF, *] at a2
        clear hag hdep ho
        refine ⟨fun _ => ?_, fun a9 pa da hal => by simp [alL] at hal⟩
        refine relStep_off rfl ?_
        rotate_left
        have e := Option.some.inj ho
        subst e
        have a8 := hag.at 8 KR
        simp only [S5, ↓reduceIte, Nat.reduceEqDiff, initF, *] at a8
        clear hag hdep ho
        refine ⟨fun _ => ?_, fun a9 pa da hal => by simp [alL] at hal⟩
        refine relStep_off rfl ?_
        rotate_left
        have e := Option.some.inj ho
        subst e
        have a3 := hag.at 3 KR
        simp only [S5, ↓reduceIte, Nat.reduceEqDiff, initF, *] at a3
        clear hag hdep ho
        refine ⟨fun _ => ?_, fun a9 pa da hal => by simp [alL] at hal⟩
        refine relStep_off rfl ?_
        rotate_left
        have e := Option.some.inj ho
        subst e
        have a7 := hag.at 7 KR
        simp only [S5, ↓reduceIte, Nat.reduceEqDiff, initF, *] at a7
        clear hag hdep ho
        refine ⟨fun _ => ?_, fun a9 pa da hal => by simp [alL] at hal⟩
        refine relStep_off rfl ?_
        rotate_left
        have e := Option.some.inj ho
        subst e
        have d3 : (gF 86) = .slice (some ⟨eb, 0, none⟩) 7 7 := hdep ⟨3, .data⟩ (by simp) rfl _ _ rfl rfl
        have d4 : (gF 87) = .int .i64 6 := hdep ⟨4, .data⟩ (by simp) rfl _ _ rfl rfl
        clear hag hdep ho
        refine ⟨fun _ => ?_, fun a9 pa da hal => by simp [alL] at hal⟩
        refine relStep_off rfl ?_
        rotate_left
        have e := Option.some.inj ho
        subst e
        have d5 : (gF 88) = .pointer (some ⟨eb, 6, none⟩) := hdep ⟨5, .data⟩ (by simp) rfl _ _ rfl rfl
        clear hag hdep ho
        refine ⟨fun _ => ?_, fun a9 pa da hal => by simp [alL] at hal⟩
        refine relStep_off rfl ?_
        rotate_left
        have e := Option.some.inj ho
        subst e
        have a4 := hag.at 4 KR
        simp only [S5, ↓reduceIte, Nat.reduceEqDiff, initF, *] at a4
        clear hag hdep ho
        refine ⟨fun _ => ?_, fun a9 pa da hal => by simp [alL] at hal⟩
        refine relStep_off rfl ?_
        rotate_left
        have e := Option.some.inj ho
        subst e
        have a7 := hag.at 7 KR
        simp only [S5, ↓reduceIte, Nat.reduceEqDiff, initF, *] at a7
        clear hag hdep ho
        refine ⟨fun _ => ?_, fun a9 pa da hal => by simp [alL] at hal⟩
        refine relStep_off rfl ?_
        rotate_left
        have e := Option.some.inj ho
        subst e
        have d7 : (gF 90) = .slice (some ⟨ee, 0, none⟩) 7 7 := hdep ⟨7, .data⟩ (by simp) rfl _ _ rfl rfl
        have d8 : (gF 91) = .int .i64 6 := hdep ⟨8, .data⟩ (by simp) rfl _ _ rfl rfl
        clear hag hdep ho
        refine ⟨fun _ => ?_, fun a9 pa da hal => by simp [alL] at hal⟩
        refine relStep_off rfl ?_
        rotate_left
        have e := Option.some.inj ho
        subst e
        have d9 : (gF 92) = .pointer (some ⟨ee, 6, none⟩) := hdep ⟨9, .data⟩ (by simp) rfl _ _ rfl rfl
        clear hag hdep ho
        refine ⟨fun _ => ?_, fun a9 pa da hal => by simp [alL] at hal⟩
        refine relStep_off rfl ?_
        rotate_left
        have e := Option.some.inj ho
        subst e
        have d6 : (gF 89) = .slice (some ⟨e6, 0, none⟩) 4 4 := hdep ⟨6, .data⟩ (by simp) rfl _ _ rfl rfl
        have d10 : (gF 93) = .int .i64 13 := hdep ⟨10, .data⟩ (by simp) rfl _ _ rfl rfl
        clear hag hdep ho
        refine ⟨fun _ => ?_, fun a9 pa da hal => by simp [alL] at hal⟩
        refine relStep_off rfl ?_
        rotate_left
        have e := Option.some.inj ho
        subst e
        have d0 : (gF 83) = .agg #[.slice (some ⟨c0, 0, none⟩) 1 1, .slice (some ⟨c1, 0, none⟩) 1 1, .slice (some ⟨c2, 0, none⟩) 1 1, .slice (some ⟨c5, 0, none⟩) 2 2, .int .i64 1, .slice none 0 0, u] := hdep ⟨0, .data⟩ (by simp) rfl _ _ rfl rfl
        have d1 : (gF 84) = .agg #[.slice (some ⟨p1, 0, none⟩) 4 4, .slice (some ⟨p4, 0, none⟩) 4 4] := hdep ⟨1, .data⟩ (by simp) rfl _ _ rfl rfl
        have d2 : (gF 85) = .agg #[.slice (some ⟨bw, 0, none⟩) 3 3, .slice (some ⟨ba, 0, none⟩) 1 1, .int .i64 1, .slice none 0 0, .slice (some ⟨c7, 0, none⟩) 8 8, .slice (some ⟨bq, 0, none⟩) 4 4, .int .i64 0, .int .i64 100] := hdep ⟨2, .data⟩ (by simp) rfl _ _ rfl rfl
        have d11 : (gF 94) = .agg #[.slice (some ⟨e6, 0, none⟩) 4 4, .int .i64 13] := hdep ⟨11, .data⟩ (by simp) rfl _ _ rfl rfl
        clear hag hdep ho
        refine ⟨fun _ => ?_, fun a9 pa da hal => by simp [alL] at hal⟩
        refine relStep_off rfl ?_
        rotate_left
        have e := Option.some.inj ho
        subst e
        have d12 : (gF 95) = .tuple #[.agg #[.int .u8 0, .int .i64 0, .int .i64 0], .int .i64 0] := hdep ⟨12, .data⟩ (by simp) rfl _ _ rfl rfl
        clear hag hdep ho
        refine ⟨fun _ => ?_, fun a9 pa da hal => by simp [alL] at hal⟩
        refine relStep_off rfl ?_
        rotate_left
        have e := Option.some.inj ho
        subst e
        have d13 : (gF 82) = .tuple #[.agg #[.int .u8 0, .int .i64 0, .int .i64 0], .int .i64 0] := hdep ⟨13, .data⟩ (by simp) rfl _ _ rfl rfl
        clear hag hdep ho
        refine ⟨fun _ => ?_, fun a9 pa da hal => by simp [alL] at hal⟩
        refine relStep_off rfl ?_
        rotate_left
        have e := Option.some.inj ho
        subst e
        have d13 : (gF 82) = .tuple #[.agg #[.int .u8 0, .int .i64 0, .int .i64 0], .int .i64 0] := hdep ⟨13, .data⟩ (by simp) rfl _ _ rfl rfl
        clear hag hdep ho
        refine ⟨fun _ => ?_, fun a9 pa da hal => by simp [alL] at hal⟩
        refine relStep_off rfl ?_
        rotate_left
        have e := Option.some.inj ho
        subst e
        clear hag hdep ho
        refine ⟨fun _ => ?_, fun a9 pa da hal => by simp [alL] at hal⟩
        refine relStep_off rfl ?_
        rotate_left
        have e := Option.some.inj ho
        subst e
        have d16 : ∃ b, (gF 9) = .pointer (some ⟨b, 0, none⟩) ∧ wB.heap.size ≤ b ∧ ((S9 16) = false → Blk w9 b 60 [.int .u8 0, .int .i64 0, .int .i64 0]) ∧ ((S9 16) = true → Blk w9 b 60 [.int .u8 0, .int .i64 0, .int .i64 0]) := hdep ⟨16, .data⟩ (by simp) rfl _ _ rfl rfl
        obtain ⟨b16, e16, q16, hz16, _⟩ := d16
        have d14 : (gF 96) = .agg #[.int .u8 0, .int .i64 0, .int .i64 0] := hdep ⟨14, .data⟩ (by simp) rfl _ _ rfl rfl
        clear hag hdep ho
        refine ⟨fun h => by simp [alL] at h, fun a9 pa da hal hS9 hpa hda => ?_⟩
        obtain rfl : 16 = a9 := by simpa [alL] using hal
        obtain rfl := Option.some.inj hpa
        obtain rfl := Option.some.inj hda
        have hz := hz16 hS9
        clear hal hpa hda hz16
        refine relStep_off rfl ?_
        rotate_left
        · omega
        all_goals (repeat' ((fail_if_success (with_reducible first | refine stop_h ?_ | refine stop_c ?_ | refine stop_s ?_ | refine stop_i ?_ | refine stop_l ?_ | refine stop_m ?_ | refine stop_o ?_ | refine stop_n ?_ | refine stop_e ?_ | refine stop_b ?_)); first
    | with_reducible first | exact ⟨⟩ | (refine gB ?_; intros) | refine gT ?_ ?_
    | refine gs ?_
    | refine sx ?_))
        all_goals first
          | (refine CallsV.mono (hK.out _ hx9) fun v w10 hh => ⟨hh.2, hh.1⟩)
          | (rename_i b10 w10 n10 k10 s10 q10; exact ⟨_, rfl, FR, fun _ => k10.2.1 _ k10.2.2.1, fun h => absurd h (by decide)⟩)
          | (
              refine stT_agg (w0 := w9) (vs := [.int .u8 0, .int .i64 0, .int .i64 0]) hz rfl KR rfl (by simp [one_int, Value.oneCell']) fun w10 hb10 hc => ⟨b16, hc, q16, ⟨b16, (by first | exact e16 | rfl), q16, fun h => absurd h (by decide), fun _ => hb10⟩, ?_⟩
              intro iI s v hne hR
              match iI, hR with
              | 0, h | 1, h | 2, h | 3, h | 4, h | 5, h | 6, h | 7, h | 8, h | 9, h | 10, h | 11, h | 13, h | 14, h | 15, h | 17, h => exact h
              | 12, h => exact h
              | 16, _ => exact absurd rfl hne)
      · intro g9 w9 hx9 hR hag
        have s9 := hx9.st
        have n9 : Now w9 := trivial
        have r9 := Ext.refl w9
        have z9 := hx9.size
        have d15 : (g9 97) = .int .i64 0 := hR 15 _ _ (by decide) rfl rfl
        have d16 : ∃ b, (g9 9) = .pointer (some ⟨b, 0, none⟩) ∧ wB.heap.size ≤ b ∧ (true = false → Blk w9 b 60 [.int .u8 0, .int .i64 0, .int .i64 0]) ∧ (true = true → Blk w9 b 60 [.int .u8 0, .int .i64 0, .int .i64 0]) := hR 16 _ _ (by decide) rfl rfl
        obtain ⟨b16, e16, q16, _, f16⟩ := d16
        replace f16 := f16 rfl
        have nw16 := Nw.of q16
        have K11 := f16.bk
        have a1 := hag.at 1 KR
        have a2 := hag.at 2 KR
        have a3 := hag.at 3 KR
        have a4 := hag.at 4 KR
        have a5 := hag.at 5 KR
        have a6 := hag.at 6 KR
        have a7 := hag.at 7 KR
        simp only [S5, ↓reduceIte, Nat.reduceEqDiff, initF, *] at a1 a2 a3 a4 a5 a6 a7
        clear hag hR
        simp only [List.drop_succ_cons, List.drop_zero]
        have hxk9 : Hid (Ext wk w9) := hx3.trans (hx3B.trans hx9)
        clear hK KB
        (repeat' ((fail_if_success (with_reducible first | refine stop_h ?_ | refine stop_c ?_ | refine stop_s ?_ | refine stop_i ?_ | refine stop_l ?_ | refine stop_m ?_ | refine stop_o ?_ | refine stop_n ?_ | refine stop_e ?_ | refine stop_b ?_)); first
    | with_reducible first | exact ⟨⟩ | (refine gB ?_; intros) | refine gT ?_ ?_
    | refine gs ?_
    | refine sx ?_))
        refine next_g hk3 hlt ?_
        (repeat' ((fail_if_success (with_reducible first | refine stop_h ?_ | refine stop_c ?_ | refine stop_s ?_ | refine stop_i ?_ | refine stop_l ?_ | refine stop_m ?_ | refine stop_o ?_ | refine stop_n ?_ | refine stop_e ?_ | refine stop_b ?_)); first
    | with_reducible first | exact ⟨⟩ | (refine gB ?_; intros) | refine gT ?_ ?_
    | refine gs ?_
    | refine sx ?_))
        all_goals exact ⟨rfl, trivial⟩
  · rintro g3 w3 n30 ⟨hi3, hf3, hp3⟩
    simp (maxDischargeDepth := 3) only [U, ↓reduceIte, Nat.reduceEqDiff, *] at hf3
    have hx3 : Ext wk w3 := hp3.out
    have hxw3 : Ext w w3 := hxk.out.trans hx3
    have s3 := hxw3.st
    have r3 := Ext.refl w3
    have I3 : Hid (KnC c0 c1 c2 c5 u p1 p4 bh bp e0 e1 e2 e3 e4 e5 e6 eb ee ew w3) := I1.out.ext hx3
    have kh := I3.out.kh.bk
    have kp := I3.out.kp.bk
    clear hp3 I1 X0 hxk rk hx3 q36 nk
    (repeat' ((fail_if_success (with_reducible first | refine stop_h ?_ | refine stop_c ?_ | refine stop_s ?_ | refine stop_i ?_ | refine stop_l ?_ | refine stop_m ?_ | refine stop_o ?_ | refine stop_n ?_ | refine stop_e ?_ | refine stop_b ?_)); first
    | ((with_reducible refine wpd_at 19 ?_); refine wpd_hold ?_)
    | with_reducible first | exact ⟨⟩ | (refine gB ?_; intros) | refine gT ?_ ?_
    | refine gs ?_
    | refine sx ?_))
    unfold wpdH
    refine wpd_relS 11 [(10, 9)] (fun iI s v w9 => match iI with
      | 0 => v = .agg #[.slice (some ⟨c0, 0, none⟩) 1 1, .slice (some ⟨c1, 0, none⟩) 1 1, .slice (some ⟨c2, 0, none⟩) 1 1, .slice (some ⟨c5, 0, none⟩) 2 2, .int .i64 1, .slice none 0 0, u]
      | 1 => v = .agg #[.slice (some ⟨p1, 0, none⟩) 4 4, .slice (some ⟨p4, 0, none⟩) 4 4]
      | 2 => TrmV w9 v 4 0
      | 3 => ∃ b, v = .slice (some ⟨b, 0, none⟩) 3 3 ∧ Blk w9 b 3 [.int .i64 0, .int .i64 2, .int .i64 0] ∧ w3.heap.size ≤ b
      | 4 => BegV w9 v [0, 2, 0] 0
      | 5 => v = .tuple #[.agg #[.int .u8 0, .int .i64 0, .int .i64 0], .int .i64 1]
      | 6 => v = .tuple #[.agg #[.int .u8 0, .int .i64 0, .int .i64 0], .int .i64 1]
      | 7 => v = .agg #[.int .u8 0, .int .i64 0, .int .i64 0]
      | 8 => v = .int .i64 1
      | 9 => ∃ b, v = .pointer (some ⟨b, 0, none⟩) ∧ w3.heap.size ≤ b ∧ (s = false → Blk w9 b 60 [.int .u8 0, .int .i64 0, .int .i64 0]) ∧ (s = true → True)
      | 10 => True
      | _ => False) KR KR KR KR ?_ ?_ ?_
    · intro iI s v w1 w2 hR hx9
      match iI, hR with
      | 0, h => exact h
      | 1, h => exact h
      | 2, h => exact h.ext hx9
      | 3, ⟨b, e, h1, h2⟩ => exact ⟨b, e, h1.ext hx9, h2⟩
      | 4, h => exact h.ext hx9
      | 5, h => exact h
      | 6, h => exact h
      | 7, h => exact h
      | 8, h => exact h
      | 9, ⟨b, e, h1, h2, h3⟩ => exact ⟨b, e, h1, fun hs => (h2 hs).ext hx9, fun hs => (fun h => trivial) (h3 hs)⟩
      | 10, h => exact h
    · intro iI oO hi ho gF w9 S9 hx9 hdep hag
      have s9 := hx9.st
      have n9 : Now w9 := trivial
      have r9 := Ext.refl w9
      have z9 := hx9.size
      rcases iI with _|_|_|_|_|_|_|_|_|_|_|iI
      have e := Option.some.inj ho
      subst e
      have a1 := hag.at 1 KR
      simp only [S5, ↓reduceIte, Nat.reduceEqDiff, initF, *] at a1
      clear hag hdep ho
      refine ⟨fun _ => ?_, fun a9 pa da hal => by simp [alL] at hal⟩
      refine relStep_off rfl ?_
      rotate_left
      have e := Option.some.inj ho
      subst e
      have a2 := hag.at 2 KR
      simp only [S5, ↓reduceIte, Nat.reduceEqDiff, initF, *] at a2
      clear hag hdep ho
      refine ⟨fun _ => ?_, fun a9 pa da hal => by simp [alL] at hal⟩
      refine relStep_off rfl ?_
      rotate_left
      have e := Option.some.inj ho
      subst e
      clear hag hdep ho
      refine ⟨fun _ => ?_, fun a9 pa da hal => by simp [alL] at hal⟩
      refine relStep_off rfl ?_
      rotate_left
      have e := Option.some.inj ho
      subst e
      clear hag hdep ho
      refine ⟨fun _ => ?_, fun a9 pa da hal => by simp [alL] at hal⟩
      refine relStep_off rfl ?_
      rotate_left
      have e := Option.some.inj ho
      subst e
      have d3 : ∃ b, (gF 123) = .slice (some ⟨b, 0, none⟩) 3 3 ∧ Blk w9 b 3 [.int .i64 0, .int .i64 2, .int .i64 0] ∧ w3.heap.size ≤ b := hdep ⟨3, .data⟩ (by simp) rfl _ _ rfl rfl
      obtain ⟨b3, e3, hb3, q3⟩ := d3
      have k3 := hb3.bk
      have nw3 := Nw.of q3
      clear hag hdep ho
      refine ⟨fun _ => ?_, fun a9 pa da hal => by simp [alL] at hal⟩
      refine relStep_off rfl ?_
      rotate_left
      have e := Option.some.inj ho
      subst e
      have d0 : (gF 120) = .agg #[.slice (some ⟨c0, 0, none⟩) 1 1, .slice (some ⟨c1, 0, none⟩) 1 1, .slice (some ⟨c2, 0, none⟩) 1 1, .slice (some ⟨c5, 0, none⟩) 2 2, .int .i64 1, .slice none 0 0, u] := hdep ⟨0, .data⟩ (by simp) rfl _ _ rfl rfl
      have d1 : (gF 121) = .agg #[.slice (some ⟨p1, 0, none⟩) 4 4, .slice (some ⟨p4, 0, none⟩) 4 4] := hdep ⟨1, .data⟩ (by simp) rfl _ _ rfl rfl
      have d2 : TrmV w9 (gF 122) 4 0 := hdep ⟨2, .data⟩ (by simp) rfl _ _ rfl rfl
      have d4 : BegV w9 (gF 124) [0, 2, 0] 0 := hdep ⟨4, .data⟩ (by simp) rfl _ _ rfl rfl
      clear hag hdep ho
      refine ⟨fun _ => ?_, fun a9 pa da hal => by simp [alL] at hal⟩
      refine relStep_off rfl ?_
      rotate_left
      have e := Option.some.inj ho
      subst e
      have d5 : (gF 125) = .tuple #[.agg #[.int .u8 0, .int .i64 0, .int .i64 0], .int .i64 1] := hdep ⟨5, .data⟩ (by simp) rfl _ _ rfl rfl
      clear hag hdep ho
      refine ⟨fun _ => ?_, fun a9 pa da hal => by simp [alL] at hal⟩
      refine relStep_off rfl ?_
      rotate_left
      have e := Option.some.inj ho
      subst e
      have d6 : (gF 119) = .tuple #[.agg #[.int .u8 0, .int .i64 0, .int .i64 0], .int .i64 1] := hdep ⟨6, .data⟩ (by simp) rfl _ _ rfl rfl
      clear hag hdep ho
      refine ⟨fun _ => ?_, fun a9 pa da hal => by simp [alL] at hal⟩
      refine relStep_off rfl ?_
      rotate_left
      have e := Option.some.inj ho
      subst e
      have d6 : (gF 119) = .tuple #[.agg #[.int .u8 0, .int .i64 0, .int .i64 0], .int .i64 1] := hdep ⟨6, .data⟩ (by simp) rfl _ _ rfl rfl
      clear hag hdep ho
      refine ⟨fun _ => ?_, fun a9 pa da hal => by simp [alL] at hal⟩
      refine relStep_off rfl ?_
      rotate_left
      have e := Option.some.inj ho
      subst e
      clear hag hdep ho
      refine ⟨fun _ => ?_, fun a9 pa da hal => by simp [alL] at hal⟩
      refine relStep_off rfl ?_
      rotate_left
      have e := Option.some.inj ho
      subst e
      have d9 : ∃ b, (gF 11) = .pointer (some ⟨b, 0, none⟩) ∧ w3.heap.size ≤ b ∧ ((S9 9) = false → Blk w9 b 60 [.int .u8 0, .int .i64 0, .int .i64 0]) ∧ ((S9 9) = true → True) := hdep ⟨9, .data⟩ (by simp) rfl _ _ rfl rfl
      obtain ⟨b9, e9, q9, hz9, _⟩ := d9
      have d7 : (gF 126) = .agg #[.int .u8 0, .int .i64 0, .int .i64 0] := hdep ⟨7, .data⟩ (by simp) rfl _ _ rfl rfl
      clear hag hdep ho
      refine ⟨fun h => by simp [alL] at h, fun a9 pa da hal hS9 hpa hda => ?_⟩
      obtain rfl : 9 = a9 := by simpa [alL] using hal
      obtain rfl := Option.some.inj hpa
      obtain rfl := Option.some.inj hda
      have hz := hz9 hS9
      clear hal hpa hda hz9
      refine relStep_off rfl ?_
      rotate_left
      · omega
      all_goals (repeat' ((fail_if_success (with_reducible first | refine stop_h ?_ | refine stop_c ?_ | refine stop_s ?_ | refine stop_i ?_ | refine stop_l ?_ | refine stop_m ?_ | refine stop_o ?_ | refine stop_n ?_ | refine stop_e ?_ | refine stop_b ?_)); first
    | with_reducible first | exact ⟨⟩ | (refine gB ?_; intros) | refine gT ?_ ?_
    | refine gs ?_
    | refine sx ?_))
      all_goals first
        | (refine CallsV.mono (law23terms (n := 4) (blast := 0) (by decide)) fun v w10 hh => hh)
        | (rename_i b10 w10 n10 k10 s10 q10; exact ⟨_, rfl, k10.2.1 _ k10.2.2.1, FR⟩)
        | (rename_i b10 w10 n10 k10 s10 q10 l10; exact ⟨_, rfl, k10.2.1 _ k10.2.2.1, FR⟩)
        | (exact ⟨b3, rfl, hb3, by decide⟩)
        | (refine CallsV.mono (beg_check (I3.out.h.ext hx9) (I3.out.p.ext hx9) d2 d4 kn_short) fun v w10 hh => ⟨hh.2, hh.1⟩)
        | (rename_i b10 w10 n10 k10 s10 q10; exact ⟨_, rfl, FR, fun _ => k10.2.1 _ k10.2.2.1, fun h => absurd h (by decide)⟩)
        | (
            refine stT_agg (w0 := w9) (vs := [.int .u8 0, .int .i64 0, .int .i64 0]) hz rfl KR rfl (by simp [one_int, Value.oneCell']) fun w10 hb10 hc => ⟨b9, hc, q9, ⟨b9, (by first | exact e9 | rfl), q9, fun h => absurd h (by decide), fun _ => trivial⟩, ?_⟩
            intro iI s v hne hR
            match iI, hR with
            | 0, h | 1, h | 6, h | 7, h | 8, h | 10, h => exact h
            | 2, h => exact h.fr hz hc
            | 3, ⟨b, e, h1, h2⟩ => exact ⟨b, e, Blk.fr h1 hz hc (by first | exact .inl (by decide) | exact .inr (by simp [natV, intV])), h2⟩
            | 4, h => exact h.fr hz hc
            | 5, h => exact h
            | 9, _ => exact absurd rfl hne)
    · intro g9 w9 hx9 hR hag
      have s9 := hx9.st
      have n9 : Now w9 := trivial
      have r9 := Ext.refl w9
      have z9 := hx9.size
      have d8 : (g9 127) = .int .i64 1 := hR 8 _ _ (by decide) rfl rfl
      have a1 := hag.at 1 KR
      have a2 := hag.at 2 KR
      simp only [S5, ↓reduceIte, Nat.reduceEqDiff, initF, *] at a1 a2
      clear hag hR
      simp only [List.drop_succ_cons, List.drop_zero]
      have d8A := d8
      clear d8
      have a1A := a1
      clear a1
      have a2A := a2
      clear a2
      have hxA0 : Ext w3 w9 := hx9
      obtain ⟨wA, hwA⟩ : ∃ wA, wA = w9 := ⟨_, rfl⟩
      subst hwA
      have IA : Hid (KnC c0 c1 c2 c5 u p1 p4 bh bp e0 e1 e2 e3 e4 e5 e6 eb ee ew wA) := I3.out.ext hxA0
      clear kh kp
      have kh := IA.out.kh.bk
      have kp := IA.out.kp.bk
      have hxwA : Ext w wA := hxw3.trans hxA0
      have sA := hxwA.st
      have rA := Ext.refl wA
      have nA0 : Now wA := trivial
      clear I3 hxA0 hx9 s9 r9 z9 r3 s3 hxw3 n9 n30 
      (repeat' ((fail_if_success (with_reducible first | refine stop_h ?_ | refine stop_c ?_ | refine stop_s ?_ | refine stop_i ?_ | refine stop_l ?_ | refine stop_m ?_ | refine stop_o ?_ | refine stop_n ?_ | refine stop_e ?_ | refine stop_b ?_)); first
    | ((with_reducible refine wpd_at 20 ?_); refine wpd_hold ?_)
    | with_reducible first | exact ⟨⟩ | (refine gB ?_; intros) | refine gT ?_ ?_
    | refine gs ?_
    | refine sx ?_))
      unfold wpdH
      refine wpd_relS 11 [(10, 9)] (fun iI s v w9 => match iI with
        | 0 => v = .agg #[.slice (some ⟨c0, 0, none⟩) 1 1, .slice (some ⟨c1, 0, none⟩) 1 1, .slice (some ⟨c2, 0, none⟩) 1 1, .slice (some ⟨c5, 0, none⟩) 2 2, .int .i64 1, .slice none 0 0, u]
        | 1 => v = .agg #[.slice (some ⟨p1, 0, none⟩) 4 4, .slice (some ⟨p4, 0, none⟩) 4 4]
        | 2 => TrmV w9 v 4 0
        | 3 => ∃ b, v = .slice (some ⟨b, 0, none⟩) 4 4 ∧ Blk w9 b 3 [.int .i64 0, .int .i64 2, .int .i64 0, .int .i64 1000001] ∧ wA.heap.size ≤ b
        | 4 => BegV w9 v [0, 2, 0, 1000001] 0
        | 5 => v = .tuple #[.agg #[.int .u8 0, .int .i64 0, .int .i64 0], .int .i64 1]
        | 6 => v = .tuple #[.agg #[.int .u8 0, .int .i64 0, .int .i64 0], .int .i64 1]
        | 7 => v = .agg #[.int .u8 0, .int .i64 0, .int .i64 0]
        | 8 => v = .int .i64 1
        | 9 => ∃ b, v = .pointer (some ⟨b, 0, none⟩) ∧ wA.heap.size ≤ b ∧ (s = false → Blk w9 b 60 [.int .u8 0, .int .i64 0, .int .i64 0]) ∧ (s = true → True)
        | 10 => True
        | _ => False) KR KR KR KR ?_ ?_ ?_
      · intro iI s v w1 w2 hR hx9
        match iI, hR with
        | 0, h => exact h
        | 1, h => exact h
        | 2, h => exact h.ext hx9
        | 3, ⟨b, e, h1, h2⟩ => exact ⟨b, e, h1.ext hx9, h2⟩
        | 4, h => exact h.ext hx9
        | 5, h => exact h
        | 6, h => exact h
        | 7, h => exact h
        | 8, h => exact h
        | 9, ⟨b, e, h1, h2, h3⟩ => exact ⟨b, e, h1, fun hs => (h2 hs).ext hx9, fun hs => (fun h => trivial) (h3 hs)⟩
        | 10, h => exact h
      · intro iI oO hi ho gF w9 S9 hx9 hdep hag
        have s9 := hx9.st
        have n9 : Now w9 := trivial
        have r9 := Ext.refl w9
        have z9 := hx9.size
        rcases iI with _|_|_|_|_|_|_|_|_|_|_|iI
        have e := Option.some.inj ho
        subst e
        have a1 := hag.at 1 KR
        simp only [S5, ↓reduceIte, Nat.reduceEqDiff, initF, *] at a1
        clear hag hdep ho
        refine ⟨fun _ => ?_, fun a9 pa da hal => by simp [alL] at hal⟩
        refine relStep_off rfl ?_
        rotate_left
        have e := Option.some.inj ho
        subst e
        have a2 := hag.at 2 KR
        simp only [S5, ↓reduceIte, Nat.reduceEqDiff, initF, *] at a2
        clear hag hdep ho
        refine ⟨fun _ => ?_, fun a9 pa da hal => by simp [alL] at hal⟩
        refine relStep_off rfl ?_
        rotate_left
        have e := Option.some.inj ho
        subst e
        clear hag hdep ho
        refine ⟨fun _ => ?_, fun a9 pa da hal => by simp [alL] at hal⟩
        refine relStep_off rfl ?_
        rotate_left
        have e := Option.some.inj ho
        subst e
        clear hag hdep ho
        refine ⟨fun _ => ?_, fun a9 pa da hal => by simp [alL] at hal⟩
        refine relStep_off rfl ?_
        rotate_left
        have e := Option.some.inj ho
        subst e
        have d3 : ∃ b, (gF 132) = .slice (some ⟨b, 0, none⟩) 4 4 ∧ Blk w9 b 3 [.int .i64 0, .int .i64 2, .int .i64 0, .int .i64 1000001] ∧ wA.heap.size ≤ b := hdep ⟨3, .data⟩ (by simp) rfl _ _ rfl rfl
        obtain ⟨b3, e3, hb3, q3⟩ := d3
        have k3 := hb3.bk
        have nw3 := Nw.of q3
        clear hag hdep ho
        refine ⟨fun _ => ?_, fun a9 pa da hal => by simp [alL] at hal⟩
        refine relStep_off rfl ?_
        rotate_left
        have e := Option.some.inj ho
        subst e
        have d0 : (gF 129) = .agg #[.slice (some ⟨c0, 0, none⟩) 1 1, .slice (some ⟨c1, 0, none⟩) 1 1, .slice (some ⟨c2, 0, none⟩) 1 1, .slice (some ⟨c5, 0, none⟩) 2 2, .int .i64 1, .slice none 0 0, u] := hdep ⟨0, .data⟩ (by simp) rfl _ _ rfl rfl
        have d1 : (gF 130) = .agg #[.slice (some ⟨p1, 0, none⟩) 4 4, .slice (some ⟨p4, 0, none⟩) 4 4] := hdep ⟨1, .data⟩ (by simp) rfl _ _ rfl rfl
        have d2 : TrmV w9 (gF 131) 4 0 := hdep ⟨2, .data⟩ (by simp) rfl _ _ rfl rfl
        have d4 : BegV w9 (gF 133) [0, 2, 0, 1000001] 0 := hdep ⟨4, .data⟩ (by simp) rfl _ _ rfl rfl
        clear hag hdep ho
        refine ⟨fun _ => ?_, fun a9 pa da hal => by simp [alL] at hal⟩
        refine relStep_off rfl ?_
        rotate_left
        have e := Option.some.inj ho
        subst e
        have d5 : (gF 134) = .tuple #[.agg #[.int .u8 0, .int .i64 0, .int .i64 0], .int .i64 1] := hdep ⟨5, .data⟩ (by simp) rfl _ _ rfl rfl
        clear hag hdep ho
        refine ⟨fun _ => ?_, fun a9 pa da hal => by simp [alL] at hal⟩
        refine relStep_off rfl ?_
        rotate_left
        have e := Option.some.inj ho
        subst e
        have d6 : (gF 128) = .tuple #[.agg #[.int .u8 0, .int .i64 0, .int .i64 0], .int .i64 1] := hdep ⟨6, .data⟩ (by simp) rfl _ _ rfl rfl
        clear hag hdep ho
        refine ⟨fun _ => ?_, fun a9 pa da hal => by simp [alL] at hal⟩
        refine relStep_off rfl ?_
        rotate_left
        have e := Option.some.inj ho
        subst e
        have d6 : (gF 128) = .tuple #[.agg #[.int .u8 0, .int .i64 0, .int .i64 0], .int .i64 1] := hdep ⟨6, .data⟩ (by simp) rfl _ _ rfl rfl
        clear hag hdep ho
        refine ⟨fun _ => ?_, fun a9 pa da hal => by simp [alL] at hal⟩
        refine relStep_off rfl ?_
        rotate_left
        have e := Option.some.inj ho
        subst e
        clear hag hdep ho
        refine ⟨fun _ => ?_, fun a9 pa da hal => by simp [alL] at hal⟩
        refine relStep_off rfl ?_
        rotate_left
        have e := Option.some.inj ho
        subst e
        have d9 : ∃ b, (gF 13) = .pointer (some ⟨b, 0, none⟩) ∧ wA.heap.size ≤ b ∧ ((S9 9) = false → Blk w9 b 60 [.int .u8 0, .int .i64 0, .int .i64 0]) ∧ ((S9 9) = true → True) := hdep ⟨9, .data⟩ (by simp) rfl _ _ rfl rfl
        obtain ⟨b9, e9, q9, hz9, _⟩ := d9
        have d7 : (gF 135) = .agg #[.int .u8 0, .int .i64 0, .int .i64 0] := hdep ⟨7, .data⟩ (by simp) rfl _ _ rfl rfl
        clear hag hdep ho
        refine ⟨fun h => by simp [alL] at h, fun a9 pa da hal hS9 hpa hda => ?_⟩
        obtain rfl : 9 = a9 := by simpa [alL] using hal
        obtain rfl := Option.some.inj hpa
        obtain rfl := Option.some.inj hda
        have hz := hz9 hS9
        clear hal hpa hda hz9
        refine relStep_off rfl ?_
        rotate_left
        · omega
        all_goals (repeat' ((fail_if_success (with_reducible first | refine stop_h ?_ | refine stop_c ?_ | refine stop_s ?_ | refine stop_i ?_ | refine stop_l ?_ | refine stop_m ?_ | refine stop_o ?_ | refine stop_n ?_ | refine stop_e ?_ | refine stop_b ?_)); first
    | with_reducible first | exact ⟨⟩ | (refine gB ?_; intros) | refine gT ?_ ?_
    | refine gs ?_
    | refine sx ?_))
        all_goals first
          | (refine CallsV.mono (law23terms (n := 4) (blast := 0) (by decide)) fun v w10 hh => hh)
          | (rename_i b10 w10 n10 k10 s10 q10; exact ⟨_, rfl, k10.2.1 _ k10.2.2.1, FR⟩)
          | (rename_i b10 w10 n10 k10 s10 q10 l10; exact ⟨_, rfl, k10.2.1 _ k10.2.2.1, FR⟩)
          | (exact ⟨b3, rfl, hb3, by decide⟩)
          | (refine CallsV.mono (beg_check (IA.out.h.ext hx9) (IA.out.p.ext hx9) d2 d4 kn_far) fun v w10 hh => ⟨hh.2, hh.1⟩)
          | (rename_i b10 w10 n10 k10 s10 q10; exact ⟨_, rfl, FR, fun _ => k10.2.1 _ k10.2.2.1, fun h => absurd h (by decide)⟩)
          | (
              refine stT_agg (w0 := w9) (vs := [.int .u8 0, .int .i64 0, .int .i64 0]) hz rfl KR rfl (by simp [one_int, Value.oneCell']) fun w10 hb10 hc => ⟨b9, hc, q9, ⟨b9, (by first | exact e9 | rfl), q9, fun h => absurd h (by decide), fun _ => trivial⟩, ?_⟩
              intro iI s v hne hR
              match iI, hR with
              | 0, h | 1, h | 6, h | 7, h | 8, h | 10, h => exact h
              | 2, h => exact h.fr hz hc
              | 3, ⟨b, e, h1, h2⟩ => exact ⟨b, e, Blk.fr h1 hz hc (by first | exact .inl (by decide) | exact .inr (by simp [natV, intV])), h2⟩
              | 4, h => exact h.fr hz hc
              | 5, h => exact h
              | 9, _ => exact absurd rfl hne)
      · intro g9 w9 hx9 hR hag
        have s9 := hx9.st
        have n9 : Now w9 := trivial
        have r9 := Ext.refl w9
        have z9 := hx9.size
        have d8 : (g9 136) = .int .i64 1 := hR 8 _ _ (by decide) rfl rfl
        have a1 := hag.at 1 KR
        have a2 := hag.at 2 KR
        have a12 := hag.at 12 KR
        simp only [S5, ↓reduceIte, Nat.reduceEqDiff, initF, *] at a1 a2 a12
        clear hag hR
        simp only [List.drop_succ_cons, List.drop_zero]
        have d8B := d8
        clear d8
        have a1B := a1
        clear a1
        have a2B := a2
        clear a2
        have a12B := a12
        clear a12
        have hxB0 : Ext wA w9 := hx9
        obtain ⟨wB, hwB⟩ : ∃ wB, wB = w9 := ⟨_, rfl⟩
        subst hwB
        have IB : Hid (KnC c0 c1 c2 c5 u p1 p4 bh bp e0 e1 e2 e3 e4 e5 e6 eb ee ew wB) := IA.out.ext hxB0
        clear kh kp
        have kh := IB.out.kh.bk
        have kp := IB.out.kp.bk
        have hxwB : Ext w wB := hxwA.trans hxB0
        have sB := hxwB.st
        have rB := Ext.refl wB
        have nB0 : Now wB := trivial
        clear IA hxB0 hx9 s9 r9 z9 rA sA hxwA n9 nA0 d8A a1A a2A
        (repeat' ((fail_if_success (with_reducible first | refine stop_h ?_ | refine stop_c ?_ | refine stop_s ?_ | refine stop_i ?_ | refine stop_l ?_ | refine stop_m ?_ | refine stop_o ?_ | refine stop_n ?_ | refine stop_e ?_ | refine stop_b ?_)); first
    | ((with_reducible refine wpd_at 21 ?_); refine wpd_hold ?_)
    | with_reducible first | exact ⟨⟩ | (refine gB ?_; intros) | refine gT ?_ ?_
    | refine gs ?_
    | refine sx ?_))
        unfold wpdH
        refine wpd_relS 11 [(9, 8)] (fun iI s v w9 => match iI with
          | 0 => v = .agg #[.slice (some ⟨c0, 0, none⟩) 1 1, .slice (some ⟨c1, 0, none⟩) 1 1, .slice (some ⟨c2, 0, none⟩) 1 1, .slice (some ⟨c5, 0, none⟩) 2 2, .int .i64 1, .slice none 0 0, u]
          | 1 => v = .agg #[.slice (some ⟨p1, 0, none⟩) 4 4, .slice (some ⟨p4, 0, none⟩) 4 4]
          | 2 => TrmV w9 v 3 0
          | 3 => ∃ t, v = .tuple #[t, .int .i64 (-1), .int .i64 1] ∧ TabV w9 t noT
          | 4 => ∃ t, v = .tuple #[t, .int .i64 (-1), .int .i64 1] ∧ TabV w9 t noT
          | 5 => TabV w9 v noT
          | 6 => v = .int .i64 (-1)
          | 7 => v = .int .i64 1
          | 8 => ∃ b, v = .pointer (some ⟨b, 0, none⟩) ∧ wB.heap.size ≤ b ∧ (s = false → Blk w9 b 45 [.slice none 0 0, .int .i64 0]) ∧ (s = true → True)
          | 9 => True
          | 10 => v = .int .i64 (-1)
          | _ => False) KR KR KR KR ?_ ?_ ?_
        · intro iI s v w1 w2 hR hx9
          match iI, hR with
          | 0, h => exact h
          | 1, h => exact h
          | 2, h => exact h.ext hx9
          | 3, h => exact (let ⟨t, e, o⟩ := h; ⟨t, e, o.ext hx9⟩)
          | 4, h => exact (let ⟨t, e, o⟩ := h; ⟨t, e, o.ext hx9⟩)
          | 5, h => exact h.ext hx9
          | 6, h => exact h
          | 7, h => exact h
          | 8, ⟨b, e, h1, h2, h3⟩ => exact ⟨b, e, h1, fun hs => (h2 hs).ext hx9, fun hs => (fun h => trivial) (h3 hs)⟩
          | 9, h => exact h
          | 10, h => exact h
        · intro iI oO hi ho gF w9 S9 hx9 hdep hag
          have s9 := hx9.st
          have n9 : Now w9 := trivial
          have r9 := Ext.refl w9
          have z9 := hx9.size
          rcases iI with _|_|_|_|_|_|_|_|_|_|_|iI
          have e := Option.some.inj ho
          subst e
          have a1 := hag.at 1 KR
          simp only [S5, ↓reduceIte, Nat.reduceEqDiff, initF, *] at a1
          clear hag hdep ho
          refine ⟨fun _ => ?_, fun a9 pa da hal => by simp [alL] at hal⟩
          refine relStep_off rfl ?_
          rotate_left
          have e := Option.some.inj ho
          subst e
          have a2 := hag.at 2 KR
          simp only [S5, ↓reduceIte, Nat.reduceEqDiff, initF, *] at a2
          clear hag hdep ho
          refine ⟨fun _ => ?_, fun a9 pa da hal => by simp [alL] at hal⟩
          refine relStep_off rfl ?_
          rotate_left
          have e := Option.some.inj ho
          subst e
          clear hag hdep ho
          refine ⟨fun _ => ?_, fun a9 pa da hal => by simp [alL] at hal⟩
          refine relStep_off rfl ?_
          rotate_left
          have e := Option.some.inj ho
          subst e
          have d0 : (gF 138) = .agg #[.slice (some ⟨c0, 0, none⟩) 1 1, .slice (some ⟨c1, 0, none⟩) 1 1, .slice (some ⟨c2, 0, none⟩) 1 1, .slice (some ⟨c5, 0, none⟩) 2 2, .int .i64 1, .slice none 0 0, u] := hdep ⟨0, .data⟩ (by simp) rfl _ _ rfl rfl
          have d1 : (gF 139) = .agg #[.slice (some ⟨p1, 0, none⟩) 4 4, .slice (some ⟨p4, 0, none⟩) 4 4] := hdep ⟨1, .data⟩ (by simp) rfl _ _ rfl rfl
          have d2 : TrmV w9 (gF 140) 3 0 := hdep ⟨2, .data⟩ (by simp) rfl _ _ rfl rfl
          clear hag hdep ho
          refine ⟨fun _ => ?_, fun a9 pa da hal => by simp [alL] at hal⟩
          refine relStep_off rfl ?_
          rotate_left
          have e := Option.some.inj ho
          subst e
          have d3 : ∃ t, (gF 141) = .tuple #[t, .int .i64 (-1), .int .i64 1] ∧ TabV w9 t noT := hdep ⟨3, .data⟩ (by simp) rfl _ _ rfl rfl
          obtain ⟨t3, e3, o3⟩ := d3
          clear hag hdep ho
          refine ⟨fun _ => ?_, fun a9 pa da hal => by simp [alL] at hal⟩
          refine relStep_off rfl ?_
          rotate_left
          have e := Option.some.inj ho
          subst e
          have d4 : ∃ t, (gF 137) = .tuple #[t, .int .i64 (-1), .int .i64 1] ∧ TabV w9 t noT := hdep ⟨4, .data⟩ (by simp) rfl _ _ rfl rfl
          obtain ⟨t4, e4, o4⟩ := d4
          clear hag hdep ho
          refine ⟨fun _ => ?_, fun a9 pa da hal => by simp [alL] at hal⟩
          refine relStep_off rfl ?_
          rotate_left
          have e := Option.some.inj ho
          subst e
          have d4 : ∃ t, (gF 137) = .tuple #[t, .int .i64 (-1), .int .i64 1] ∧ TabV w9 t noT := hdep ⟨4, .data⟩ (by simp) rfl _ _ rfl rfl
          obtain ⟨t4, e4, o4⟩ := d4
          clear hag hdep ho
          refine ⟨fun _ => ?_, fun a9 pa da hal => by simp [alL] at hal⟩
          refine relStep_off rfl ?_
          rotate_left
          have e := Option.some.inj ho
          subst e
          have d4 : ∃ t, (gF 137) = .tuple #[t, .int .i64 (-1), .int .i64 1] ∧ TabV w9 t noT := hdep ⟨4, .data⟩ (by simp) rfl _ _ rfl rfl
          obtain ⟨t4, e4, o4⟩ := d4
          clear hag hdep ho
          refine ⟨fun _ => ?_, fun a9 pa da hal => by simp [alL] at hal⟩
          refine relStep_off rfl ?_
          rotate_left
          have e := Option.some.inj ho
          subst e
          clear hag hdep ho
          refine ⟨fun _ => ?_, fun a9 pa da hal => by simp [alL] at hal⟩
          refine relStep_off rfl ?_
          rotate_left
          have e := Option.some.inj ho
          subst e
          have d8 : ∃ b, (gF 15) = .pointer (some ⟨b, 0, none⟩) ∧ wB.heap.size ≤ b ∧ ((S9 8) = false → Blk w9 b 45 [.slice none 0 0, .int .i64 0]) ∧ ((S9 8) = true → True) := hdep ⟨8, .data⟩ (by simp) rfl _ _ rfl rfl
          obtain ⟨b8, e8, q8, hz8, _⟩ := d8
          have d5 : TabV w9 (gF 142) noT := hdep ⟨5, .data⟩ (by simp) rfl _ _ rfl rfl
          obtain ⟨tv5, B5, e5, o5⟩ := d5
          have h5one := o5.one
          clear hag hdep ho
          refine ⟨fun h => by simp [alL] at h, fun a9 pa da hal hS9 hpa hda => ?_⟩
          obtain rfl : 8 = a9 := by simpa [alL] using hal
          obtain rfl := Option.some.inj hpa
          obtain rfl := Option.some.inj hda
          have hz := hz8 hS9
          clear hal hpa hda hz8
          refine relStep_off rfl ?_
          rotate_left
          have e := Option.some.inj ho
          subst e
          have d6 : (gF 143) = .int .i64 (-1) := hdep ⟨6, .data⟩ (by simp) rfl _ _ rfl rfl
          clear hag hdep ho
          refine ⟨fun _ => ?_, fun a9 pa da hal => by simp [alL] at hal⟩
          refine relStep_off rfl ?_
          rotate_left
          · omega
          all_goals (repeat' ((fail_if_success (with_reducible first | refine stop_h ?_ | refine stop_c ?_ | refine stop_s ?_ | refine stop_i ?_ | refine stop_l ?_ | refine stop_m ?_ | refine stop_o ?_ | refine stop_n ?_ | refine stop_e ?_ | refine stop_b ?_)); first
    | with_reducible first | exact ⟨⟩ | (refine gB ?_; intros) | refine gT ?_ ?_
    | refine gs ?_
    | refine sx ?_))
          all_goals first
            | (refine CallsV.mono (law23terms (n := 3) (blast := 0) (by decide)) fun v w10 hh => hh)
            | (refine CallsV.mono (make_of (IB.out.h.ext hx9) (IB.out.p.ext hx9) d2 kn_three) fun v w10 hh => hh)
            | (exact ⟨t3, rfl, o3⟩)
            | (exact o4)
            | (rename_i b10 w10 n10 k10 s10 q10; exact ⟨_, rfl, FR, fun _ => k10.2.1 _ k10.2.2.1, fun h => absurd h (by decide)⟩)
            | (
                refine stT_agg (w0 := w9) (vs := [tv5, .int .i64 0]) hz rfl KR rfl (by simp [h5one, one_int]) fun w10 hb10 hc => ⟨b8, hc, q8, ⟨b8, (by first | exact e8 | rfl), q8, fun h => absurd h (by decide), fun _ => trivial⟩, ?_⟩
                intro iI s v hne hR
                match iI, hR with
                | 0, h | 1, h | 6, h | 7, h | 9, h | 10, h => exact h
                | 2, h => exact h.fr hz hc
                | 3, h => exact (let ⟨t, e, o⟩ := h; ⟨t, e, o.fr hz hc⟩)
                | 4, h => exact (let ⟨t, e, o⟩ := h; ⟨t, e, o.fr hz hc⟩)
                | 5, h => exact h.fr hz hc
                | 8, _ => exact absurd rfl hne)
        · intro g9 w9 hx9 hR hag
          have s9 := hx9.st
          have n9 : Now w9 := trivial
          have r9 := Ext.refl w9
          have z9 := hx9.size
          have d7 : (g9 144) = .int .i64 1 := hR 7 _ _ (by decide) rfl rfl
          have a1 := hag.at 1 KR
          have a2 := hag.at 2 KR
          have a12 := hag.at 12 KR
          have a14 := hag.at 14 KR
          simp only [S5, ↓reduceIte, Nat.reduceEqDiff, initF, *] at a1 a2 a12 a14
          clear hag hR
          simp only [List.drop_succ_cons, List.drop_zero]
          have d7C := d7
          clear d7
          have a1C := a1
          clear a1
          have a2C := a2
          clear a2
          have a12C := a12
          clear a12
          have a14C := a14
          clear a14
          have hxC0 : Ext wB w9 := hx9
          obtain ⟨wC, hwC⟩ : ∃ wC, wC = w9 := ⟨_, rfl⟩
          subst hwC
          have IC : Hid (KnC c0 c1 c2 c5 u p1 p4 bh bp e0 e1 e2 e3 e4 e5 e6 eb ee ew wC) := IB.out.ext hxC0
          clear kh kp
          have kh := IC.out.kh.bk
          have kp := IC.out.kp.bk
          have hxwC : Ext w wC := hxwB.trans hxC0
          have sC := hxwC.st
          have rC := Ext.refl wC
          have nC0 : Now wC := trivial
          clear IB hxC0 hx9 s9 r9 z9 rB sB hxwB n9 nB0 d8B a1B a2B a12B
          (repeat' ((fail_if_success (with_reducible first | refine stop_h ?_ | refine stop_c ?_ | refine stop_s ?_ | refine stop_i ?_ | refine stop_l ?_ | refine stop_m ?_ | refine stop_o ?_ | refine stop_n ?_ | refine stop_e ?_ | refine stop_b ?_)); first
    | ((with_reducible refine wpd_at 23 ?_); refine wpd_hold ?_)
    | with_reducible first | exact ⟨⟩ | (refine gB ?_; intros) | refine gT ?_ ?_
    | refine gs ?_
    | refine sx ?_))
          refine slice_hiR (m := 2) (by omega) ?_
          (repeat' ((fail_if_success (with_reducible first | refine stop_h ?_ | refine stop_c ?_ | refine stop_s ?_ | refine stop_i ?_ | refine stop_l ?_ | refine stop_m ?_ | refine stop_o ?_ | refine stop_n ?_ | refine stop_e ?_ | refine stop_b ?_)); first
    | ((with_reducible refine wpd_at 23 ?_); refine wpd_hold ?_)
    | with_reducible first | exact ⟨⟩ | (refine gB ?_; intros) | refine gT ?_ ?_
    | refine gs ?_
    | refine sx ?_))
          rename_i cA wa na ka sa qa la cB wb nb kb_ sb qb lb cC wc nc kc sc qc lc cD wd nd kd sd qd wD nD0 kD0 sD0
          have K1 : Blk wD cA 3 [.int .i64 1] := ka.2.1 _ FR
          have K2 : Blk wD cB 3 [.int .i64 0] := kb_.2.1 _ FR
          have K3 : Blk wD cC 39 [.slice (some ⟨cA, 0, none⟩) 1 1, .slice (some ⟨cB, 0, none⟩) 1 1] := kc.2.1 _ FR
          have hxCD : Ext wC wD := FR
          have ID : Hid (KnC c0 c1 c2 c5 u p1 p4 bh bp e0 e1 e2 e3 e4 e5 e6 eb ee ew wD) := IC.out.ext hxCD
          have hC : Hid (CirV wD (.agg #[.slice (some ⟨p1, 0, none⟩) 2 4, .slice (some ⟨cC, 0, none⟩) 2 2])) := ⟨p1, cA, cB, cC, rfl, ID.out.st, K1, K2, K3⟩
          have hxwD : Ext w wD := hxwC.trans hxCD
          have kh := ID.out.kh.bk
          have kp := ID.out.kp.bk
          have sD := hxwD.st
          have rD := Ext.refl wD
          clear ka kb_ kc kd sa sb sc sd qa qb qc qd la lb lc K1 K2 K3 hxCD IC sC rC hxwC sD0
          unfold wpdH
          refine wpd_relS 11 [(9, 8)] (fun iI s v w9 => match iI with
            | 0 => v = .agg #[.slice (some ⟨c0, 0, none⟩) 1 1, .slice (some ⟨c1, 0, none⟩) 1 1, .slice (some ⟨c2, 0, none⟩) 1 1, .slice (some ⟨c5, 0, none⟩) 2 2, .int .i64 1, .slice none 0 0, u]
            | 1 => v = .agg #[.slice (some ⟨p1, 0, none⟩) 2 4, .slice (some ⟨cC, 0, none⟩) 2 2]
            | 2 => TrmV w9 v 2 0
            | 3 => ∃ t, v = .tuple #[t, .int .i64 (-1), .int .i64 1] ∧ TabV w9 t noT
            | 4 => ∃ t, v = .tuple #[t, .int .i64 (-1), .int .i64 1] ∧ TabV w9 t noT
            | 5 => TabV w9 v noT
            | 6 => v = .int .i64 (-1)
            | 7 => v = .int .i64 1
            | 8 => ∃ b, v = .pointer (some ⟨b, 0, none⟩) ∧ wD.heap.size ≤ b ∧ (s = false → Blk w9 b 45 [.slice none 0 0, .int .i64 0]) ∧ (s = true → True)
            | 9 => True
            | 10 => v = .int .i64 (-1)
            | _ => False) KR KR KR KR ?_ ?_ ?_
          · intro iI s v w1 w2 hR hx9
            match iI, hR with
            | 0, h => exact h
            | 1, h => exact h
            | 2, h => exact h.ext hx9
            | 3, h => exact (let ⟨t, e, o⟩ := h; ⟨t, e, o.ext hx9⟩)
            | 4, h => exact (let ⟨t, e, o⟩ := h; ⟨t, e, o.ext hx9⟩)
            | 5, h => exact h.ext hx9
            | 6, h => exact h
            | 7, h => exact h
            | 8, ⟨b, e, h1, h2, h3⟩ => exact ⟨b, e, h1, fun hs => (h2 hs).ext hx9, fun hs => (fun h => trivial) (h3 hs)⟩
            | 9, h => exact h
            | 10, h => exact h
          · intro iI oO hi ho gF w9 S9 hx9 hdep hag
            have s9 := hx9.st
            have n9 : Now w9 := trivial
            have r9 := Ext.refl w9
            have z9 := hx9.size
            rcases iI with _|_|_|_|_|_|_|_|_|_|_|iI
            have e := Option.some.inj ho
            subst e
            have a1 := hag.at 1 KR
            simp only [S5, ↓reduceIte, Nat.reduceEqDiff, initF, *] at a1
            clear hag hdep ho
            refine ⟨fun _ => ?_, fun a9 pa da hal => by simp [alL] at hal⟩
            refine relStep_off rfl ?_
            rotate_left
            have e := Option.some.inj ho
            subst e
            have a18 := hag.at 18 KR
            simp only [S5, ↓reduceIte, Nat.reduceEqDiff, initF, *] at a18
            clear hag hdep ho
            refine ⟨fun _ => ?_, fun a9 pa da hal => by simp [alL] at hal⟩
            refine relStep_off rfl ?_
            rotate_left
            have e := Option.some.inj ho
            subst e
            clear hag hdep ho
            refine ⟨fun _ => ?_, fun a9 pa da hal => by simp [alL] at hal⟩
            refine relStep_off rfl ?_
            rotate_left
            have e := Option.some.inj ho
            subst e
            have d0 : (gF 153) = .agg #[.slice (some ⟨c0, 0, none⟩) 1 1, .slice (some ⟨c1, 0, none⟩) 1 1, .slice (some ⟨c2, 0, none⟩) 1 1, .slice (some ⟨c5, 0, none⟩) 2 2, .int .i64 1, .slice none 0 0, u] := hdep ⟨0, .data⟩ (by simp) rfl _ _ rfl rfl
            have d1 : (gF 154) = .agg #[.slice (some ⟨p1, 0, none⟩) 2 4, .slice (some ⟨cC, 0, none⟩) 2 2] := hdep ⟨1, .data⟩ (by simp) rfl _ _ rfl rfl
            have d2 : TrmV w9 (gF 155) 2 0 := hdep ⟨2, .data⟩ (by simp) rfl _ _ rfl rfl
            clear hag hdep ho
            refine ⟨fun _ => ?_, fun a9 pa da hal => by simp [alL] at hal⟩
            refine relStep_off rfl ?_
            rotate_left
            have e := Option.some.inj ho
            subst e
            have d3 : ∃ t, (gF 156) = .tuple #[t, .int .i64 (-1), .int .i64 1] ∧ TabV w9 t noT := hdep ⟨3, .data⟩ (by simp) rfl _ _ rfl rfl
            obtain ⟨t3, e3, o3⟩ := d3
            clear hag hdep ho
            refine ⟨fun _ => ?_, fun a9 pa da hal => by simp [alL] at hal⟩
            refine relStep_off rfl ?_
            rotate_left
            have e := Option.some.inj ho
            subst e
            have d4 : ∃ t, (gF 152) = .tuple #[t, .int .i64 (-1), .int .i64 1] ∧ TabV w9 t noT := hdep ⟨4, .data⟩ (by simp) rfl _ _ rfl rfl
            obtain ⟨t4, e4, o4⟩ := d4
            clear hag hdep ho
            refine ⟨fun _ => ?_, fun a9 pa da hal => by simp [alL] at hal⟩
            refine relStep_off rfl ?_
            rotate_left
            have e := Option.some.inj ho
            subst e
            have d4 : ∃ t, (gF 152) = .tuple #[t, .int .i64 (-1), .int .i64 1] ∧ TabV w9 t noT := hdep ⟨4, .data⟩ (by simp) rfl _ _ rfl rfl
            obtain ⟨t4, e4, o4⟩ := d4
            clear hag hdep ho
            refine ⟨fun _ => ?_, fun a9 pa da hal => by simp [alL] at hal⟩
            refine relStep_off rfl ?_
            rotate_left
            have e := Option.some.inj ho
            subst e
            have d4 : ∃ t, (gF 152) = .tuple #[t, .int .i64 (-1), .int .i64 1] ∧ TabV w9 t noT := hdep ⟨4, .data⟩ (by simp) rfl _ _ rfl rfl
            obtain ⟨t4, e4, o4⟩ := d4
            clear hag hdep ho
            refine ⟨fun _ => ?_, fun a9 pa da hal => by simp [alL] at hal⟩
            refine relStep_off rfl ?_
            rotate_left
            have e := Option.some.inj ho
            subst e
            clear hag hdep ho
            refine ⟨fun _ => ?_, fun a9 pa da hal => by simp [alL] at hal⟩
            refine relStep_off rfl ?_
            rotate_left
            have e := Option.some.inj ho
            subst e
            have d8 : ∃ b, (gF 19) = .pointer (some ⟨b, 0, none⟩) ∧ wD.heap.size ≤ b ∧ ((S9 8) = false → Blk w9 b 45 [.slice none 0 0, .int .i64 0]) ∧ ((S9 8) = true → True) := hdep ⟨8, .data⟩ (by simp) rfl _ _ rfl rfl
            obtain ⟨b8, e8, q8, hz8, _⟩ := d8
            have d5 : TabV w9 (gF 157) noT := hdep ⟨5, .data⟩ (by simp) rfl _ _ rfl rfl
            obtain ⟨tv5, B5, e5, o5⟩ := d5
            have h5one := o5.one
            clear hag hdep ho
            refine ⟨fun h => by simp [alL] at h, fun a9 pa da hal hS9 hpa hda => ?_⟩
            obtain rfl : 8 = a9 := by simpa [alL] using hal
            obtain rfl := Option.some.inj hpa
            obtain rfl := Option.some.inj hda
            have hz := hz8 hS9
            clear hal hpa hda hz8
            refine relStep_off rfl ?_
            rotate_left
            have e := Option.some.inj ho
            subst e
            have d6 : (gF 158) = .int .i64 (-1) := hdep ⟨6, .data⟩ (by simp) rfl _ _ rfl rfl
            clear hag hdep ho
            refine ⟨fun _ => ?_, fun a9 pa da hal => by simp [alL] at hal⟩
            refine relStep_off rfl ?_
            rotate_left
            · omega
            all_goals (repeat' ((fail_if_success (with_reducible first | refine stop_h ?_ | refine stop_c ?_ | refine stop_s ?_ | refine stop_i ?_ | refine stop_l ?_ | refine stop_m ?_ | refine stop_o ?_ | refine stop_n ?_ | refine stop_e ?_ | refine stop_b ?_)); first
    | with_reducible first | exact ⟨⟩ | (refine gB ?_; intros) | refine gT ?_ ?_
    | refine gs ?_
    | refine sx ?_))
            all_goals first
              | (refine CallsV.mono (law23terms (n := 2) (blast := 0) (by decide)) fun v w10 hh => hh)
              | (refine CallsV.mono (cir_make (ID.out.h.ext hx9) (hC.out.ext hx9) d2 kn_circle) fun v w10 hh => hh)
              | (exact ⟨t3, rfl, o3⟩)
              | (exact o4)
              | (rename_i b10 w10 n10 k10 s10 q10; exact ⟨_, rfl, FR, fun _ => k10.2.1 _ k10.2.2.1, fun h => absurd h (by decide)⟩)
              | (
                  refine stT_agg (w0 := w9) (vs := [tv5, .int .i64 0]) hz rfl KR rfl (by simp [h5one, one_int]) fun w10 hb10 hc => ⟨b8, hc, q8, ⟨b8, (by first | exact e8 | rfl), q8, fun h => absurd h (by decide), fun _ => trivial⟩, ?_⟩
                  intro iI s v hne hR
                  match iI, hR with
                  | 0, h | 1, h | 6, h | 7, h | 9, h | 10, h => exact h
                  | 2, h => exact h.fr hz hc
                  | 3, h => exact (let ⟨t, e, o⟩ := h; ⟨t, e, o.fr hz hc⟩)
                  | 4, h => exact (let ⟨t, e, o⟩ := h; ⟨t, e, o.fr hz hc⟩)
                  | 5, h => exact h.fr hz hc
                  | 8, _ => exact absurd rfl hne)
          · intro g9 w9 hx9 hR hag
            have s9 := hx9.st
            have n9 : Now w9 := trivial
            have r9 := Ext.refl w9
            have z9 := hx9.size
            have d7 : (g9 159) = .int .i64 1 := hR 7 _ _ (by decide) rfl rfl
            have d10 : (g9 20) = .int .i64 (-1) := hR 10 _ _ (by decide) rfl rfl
            have a1 := hag.at 1 KR
            have a2 := hag.at 2 KR
            have a12 := hag.at 12 KR
            have a14 := hag.at 14 KR
            have a17 := hag.at 17 KR
            simp only [S5, ↓reduceIte, Nat.reduceEqDiff, initF, *] at a1 a2 a12 a14 a17
            clear hag hR
            simp only [List.drop_succ_cons, List.drop_zero]
            clear hC kD0
            have d7E := d7
            clear d7
            have d10E := d10
            clear d10
            have a1E := a1
            clear a1
            have a2E := a2
            clear a2
            have a12E := a12
            clear a12
            have a14E := a14
            clear a14
            have a17E := a17
            clear a17
            have hxE0 : Ext wD w9 := hx9
            obtain ⟨wE, hwE⟩ : ∃ wE, wE = w9 := ⟨_, rfl⟩
            subst hwE
            have IE : Hid (KnC c0 c1 c2 c5 u p1 p4 bh bp e0 e1 e2 e3 e4 e5 e6 eb ee ew wE) := ID.out.ext hxE0
            clear kh kp
            have kh := IE.out.kh.bk
            have kp := IE.out.kp.bk
            have hxwE : Ext w wE := hxwD.trans hxE0
            have sE := hxwE.st
            have rE := Ext.refl wE
            have nE0 : Now wE := trivial
            clear ID hxE0 hx9 s9 r9 z9 rD sD hxwD n9 nD0 d7C a1C a2C a12C a14C
            (repeat' ((fail_if_success (with_reducible first | refine stop_h ?_ | refine stop_c ?_ | refine stop_s ?_ | refine stop_i ?_ | refine stop_l ?_ | refine stop_m ?_ | refine stop_o ?_ | refine stop_n ?_ | refine stop_e ?_ | refine stop_b ?_)); first
    | ((with_reducible refine wpd_at 24 ?_); refine wpd_hold ?_)
    | with_reducible first | exact ⟨⟩ | (refine gB ?_; intros) | refine gT ?_ ?_
    | refine gs ?_
    | refine sx ?_))
            unfold wpdH
            refine wpd_relS 11 [(9, 8)] (fun iI s v w9 => match iI with
              | 0 => v = .agg #[.slice (some ⟨c0, 0, none⟩) 1 1, .slice (some ⟨c1, 0, none⟩) 1 1, .slice (some ⟨c2, 0, none⟩) 1 1, .slice (some ⟨c5, 0, none⟩) 2 2, .int .i64 1, .slice none 0 0, u]
              | 1 => v = .agg #[.slice none 0 0, .slice none 0 0]
              | 2 => TrmV w9 v 0 3
              | 3 => ∃ t, v = .tuple #[t, .int .i64 (-1), .int .i64 0] ∧ TabV w9 t (⟨[], 0⟩ : TableD)
              | 4 => ∃ t, v = .tuple #[t, .int .i64 (-1), .int .i64 0] ∧ TabV w9 t (⟨[], 0⟩ : TableD)
              | 5 => TabV w9 v (⟨[], 0⟩ : TableD)
              | 6 => v = .int .i64 (-1)
              | 7 => v = .int .i64 0
              | 8 => ∃ b, v = .pointer (some ⟨b, 0, none⟩) ∧ wE.heap.size ≤ b ∧ (s = false → Blk w9 b 45 [.slice none 0 0, .int .i64 0]) ∧ (s = true → EmpV w9 b)
              | 9 => True
              | 10 => v = .int .i64 (-1)
              | _ => False) KR KR KR KR ?_ ?_ ?_
            · intro iI s v w1 w2 hR hx9
              match iI, hR with
              | 0, h => exact h
              | 1, h => exact h
              | 2, h => exact h.ext hx9
              | 3, h => exact (let ⟨t, e, o⟩ := h; ⟨t, e, o.ext hx9⟩)
              | 4, h => exact (let ⟨t, e, o⟩ := h; ⟨t, e, o.ext hx9⟩)
              | 5, h => exact h.ext hx9
              | 6, h => exact h
              | 7, h => exact h
              | 8, ⟨b, e, h1, h2, h3⟩ => exact ⟨b, e, h1, fun hs => (h2 hs).ext hx9, fun hs => (fun h => (h.ext hx9)) (h3 hs)⟩
              | 9, h => exact h
              | 10, h => exact h
            · intro iI oO hi ho gF w9 S9 hx9 hdep hag
              have s9 := hx9.st
              have n9 : Now w9 := trivial
              have r9 := Ext.refl w9
              have z9 := hx9.size
              rcases iI with _|_|_|_|_|_|_|_|_|_|_|iI
              have e := Option.some.inj ho
              subst e
              have a1 := hag.at 1 KR
              simp only [S5, ↓reduceIte, Nat.reduceEqDiff, initF, *] at a1
              clear hag hdep ho
              refine ⟨fun _ => ?_, fun a9 pa da hal => by simp [alL] at hal⟩
              refine relStep_off rfl ?_
              rotate_left
              have e := Option.some.inj ho
              subst e
              clear hag hdep ho
              refine ⟨fun _ => ?_, fun a9 pa da hal => by simp [alL] at hal⟩
              refine relStep_off rfl ?_
              rotate_left
              have e := Option.some.inj ho
              subst e
              clear hag hdep ho
              refine ⟨fun _ => ?_, fun a9 pa da hal => by simp [alL] at hal⟩
              refine relStep_off rfl ?_
              rotate_left
              have e := Option.some.inj ho
              subst e
              have d0 : (gF 161) = .agg #[.slice (some ⟨c0, 0, none⟩) 1 1, .slice (some ⟨c1, 0, none⟩) 1 1, .slice (some ⟨c2, 0, none⟩) 1 1, .slice (some ⟨c5, 0, none⟩) 2 2, .int .i64 1, .slice none 0 0, u] := hdep ⟨0, .data⟩ (by simp) rfl _ _ rfl rfl
              have d1 : (gF 162) = .agg #[.slice none 0 0, .slice none 0 0] := hdep ⟨1, .data⟩ (by simp) rfl _ _ rfl rfl
              have d2 : TrmV w9 (gF 163) 0 3 := hdep ⟨2, .data⟩ (by simp) rfl _ _ rfl rfl
              clear hag hdep ho
              refine ⟨fun _ => ?_, fun a9 pa da hal => by simp [alL] at hal⟩
              refine relStep_off rfl ?_
              rotate_left
              have e := Option.some.inj ho
              subst e
              have d3 : ∃ t, (gF 164) = .tuple #[t, .int .i64 (-1), .int .i64 0] ∧ TabV w9 t (⟨[], 0⟩ : TableD) := hdep ⟨3, .data⟩ (by simp) rfl _ _ rfl rfl
              obtain ⟨t3, e3, o3⟩ := d3
              clear hag hdep ho
              refine ⟨fun _ => ?_, fun a9 pa da hal => by simp [alL] at hal⟩
              refine relStep_off rfl ?_
              rotate_left
              have e := Option.some.inj ho
              subst e
              have d4 : ∃ t, (gF 160) = .tuple #[t, .int .i64 (-1), .int .i64 0] ∧ TabV w9 t (⟨[], 0⟩ : TableD) := hdep ⟨4, .data⟩ (by simp) rfl _ _ rfl rfl
              obtain ⟨t4, e4, o4⟩ := d4
              clear hag hdep ho
              refine ⟨fun _ => ?_, fun a9 pa da hal => by simp [alL] at hal⟩
              refine relStep_off rfl ?_
              rotate_left
              have e := Option.some.inj ho
              subst e
              have d4 : ∃ t, (gF 160) = .tuple #[t, .int .i64 (-1), .int .i64 0] ∧ TabV w9 t (⟨[], 0⟩ : TableD) := hdep ⟨4, .data⟩ (by simp) rfl _ _ rfl rfl
              obtain ⟨t4, e4, o4⟩ := d4
              clear hag hdep ho
              refine ⟨fun _ => ?_, fun a9 pa da hal => by simp [alL] at hal⟩
              refine relStep_off rfl ?_
              rotate_left
              have e := Option.some.inj ho
              subst e
              have d4 : ∃ t, (gF 160) = .tuple #[t, .int .i64 (-1), .int .i64 0] ∧ TabV w9 t (⟨[], 0⟩ : TableD) := hdep ⟨4, .data⟩ (by simp) rfl _ _ rfl rfl
              obtain ⟨t4, e4, o4⟩ := d4
              clear hag hdep ho
              refine ⟨fun _ => ?_, fun a9 pa da hal => by simp [alL] at hal⟩
              refine relStep_off rfl ?_
              rotate_left
              have e := Option.some.inj ho
              subst e
              clear hag hdep ho
              refine ⟨fun _ => ?_, fun a9 pa da hal => by simp [alL] at hal⟩
              refine relStep_off rfl ?_
              rotate_left
              have e := Option.some.inj ho
              subst e
              have d8 : ∃ b, (gF 22) = .pointer (some ⟨b, 0, none⟩) ∧ wE.heap.size ≤ b ∧ ((S9 8) = false → Blk w9 b 45 [.slice none 0 0, .int .i64 0]) ∧ ((S9 8) = true → EmpV w9 b) := hdep ⟨8, .data⟩ (by simp) rfl _ _ rfl rfl
              obtain ⟨b8, e8, q8, hz8, _⟩ := d8
              have d5 : TabV w9 (gF 165) (⟨[], 0⟩ : TableD) := hdep ⟨5, .data⟩ (by simp) rfl _ _ rfl rfl
              obtain ⟨tv5, B5, e5, o5⟩ := d5
              have h5one := o5.one
              clear hag hdep ho
              refine ⟨fun h => by simp [alL] at h, fun a9 pa da hal hS9 hpa hda => ?_⟩
              obtain rfl : 8 = a9 := by simpa [alL] using hal
              obtain rfl := Option.some.inj hpa
              obtain rfl := Option.some.inj hda
              have hz := hz8 hS9
              clear hal hpa hda hz8
              refine relStep_off rfl ?_
              rotate_left
              have e := Option.some.inj ho
              subst e
              have d6 : (gF 166) = .int .i64 (-1) := hdep ⟨6, .data⟩ (by simp) rfl _ _ rfl rfl
              clear hag hdep ho
              refine ⟨fun _ => ?_, fun a9 pa da hal => by simp [alL] at hal⟩
              refine relStep_off rfl ?_
              rotate_left
              · omega
              all_goals (repeat' ((fail_if_success (with_reducible first | refine stop_h ?_ | refine stop_c ?_ | refine stop_s ?_ | refine stop_i ?_ | refine stop_l ?_ | refine stop_m ?_ | refine stop_o ?_ | refine stop_n ?_ | refine stop_e ?_ | refine stop_b ?_)); first
    | with_reducible first | exact ⟨⟩ | (refine gB ?_; intros) | refine gT ?_ ?_
    | refine gs ?_
    | refine sx ?_))
              all_goals first
                | (refine CallsV.mono (law23terms (n := 0) (blast := 3) (by decide)) fun v w10 hh => hh)
                | (refine CallsV.mono (none_make (IE.out.h.ext hx9) d2 kn_none) fun v w10 hh => hh)
                | (exact ⟨t3, rfl, o3⟩)
                | (exact o4)
                | (rename_i b10 w10 n10 k10 s10 q10; exact ⟨_, rfl, FR, fun _ => k10.2.1 _ k10.2.2.1, fun h => absurd h (by decide)⟩)
                | (
                    refine stT_agg (w0 := w9) (vs := [tv5, .int .i64 0]) hz rfl KR rfl (by simp [h5one, one_int]) fun w10 hb10 hc => ⟨b8, hc, q8, ⟨b8, (by first | exact e8 | rfl), q8, fun h => absurd h (by decide), fun _ => ⟨_, _, hb10, o5.fr hz hc (.inl (by decide))⟩⟩, ?_⟩
                    intro iI s v hne hR
                    match iI, hR with
                    | 0, h | 1, h | 6, h | 7, h | 9, h | 10, h => exact h
                    | 2, h => exact h.fr hz hc
                    | 3, h => exact (let ⟨t, e, o⟩ := h; ⟨t, e, o.fr hz hc⟩)
                    | 4, h => exact (let ⟨t, e, o⟩ := h; ⟨t, e, o.fr hz hc⟩)
                    | 5, h => exact h.fr hz hc
                    | 8, _ => exact absurd rfl hne)
            · intro g9 w9 hx9 hR hag
              have s9 := hx9.st
              have n9 : Now w9 := trivial
              have r9 := Ext.refl w9
              have z9 := hx9.size
              have d7 : (g9 167) = .int .i64 0 := hR 7 _ _ (by decide) rfl rfl
              have d8 : ∃ b, (g9 22) = .pointer (some ⟨b, 0, none⟩) ∧ wE.heap.size ≤ b ∧ (true = false → Blk w9 b 45 [.slice none 0 0, .int .i64 0]) ∧ (true = true → EmpV w9 b) := hR 8 _ _ (by decide) rfl rfl
              obtain ⟨b8, e8, q8, _, f8⟩ := d8
              replace f8 := f8 rfl
              have nw8 := Nw.of q8
              obtain ⟨tvE, BE, kE, oE⟩ := f8
              have d10 : (g9 23) = .int .i64 (-1) := hR 10 _ _ (by decide) rfl rfl
              have a1 := hag.at 1 KR
              have a2 := hag.at 2 KR
              have a12 := hag.at 12 KR
              have a14 := hag.at 14 KR
              have a17 := hag.at 17 KR
              have a20 := hag.at 20 KR
              have a21 := hag.at 21 KR
              simp only [S5, ↓reduceIte, Nat.reduceEqDiff, initF, *] at a1 a2 a12 a14 a17 a20 a21
              clear hag hR
              simp only [List.drop_succ_cons, List.drop_zero]
              have hE0 : Hid (Blk w9 b8 45 [tvE, .int .i64 0]) := kE
              have oE0 : Hid (Own w9 BE 3 1 tvE (([] : List Int).map intC)) := oE
              clear kE oE
              have d7G := d7
              clear d7
              have d10G := d10
              clear d10
              have a1G := a1
              clear a1
              have a2G := a2
              clear a2
              have a12G := a12
              clear a12
              have a14G := a14
              clear a14
              have a17G := a17
              clear a17
              have a20G := a20
              clear a20
              have a21G := a21
              clear a21
              have hxG0 : Ext wE w9 := hx9
              obtain ⟨wG, hwG⟩ : ∃ wG, wG = w9 := ⟨_, rfl⟩
              subst hwG
              have IG : Hid (KnC c0 c1 c2 c5 u p1 p4 bh bp e0 e1 e2 e3 e4 e5 e6 eb ee ew wG) := IE.out.ext hxG0
              clear kh kp
              have kh := IG.out.kh.bk
              have kp := IG.out.kp.bk
              have hxwG : Ext w wG := hxwE.trans hxG0
              have sG := hxwG.st
              have rG := Ext.refl wG
              have nG0 : Now wG := trivial
              clear IE hxG0 hx9 s9 r9 z9 rE sE hxwE n9 nE0 d7E d10E a1E a2E a12E a14E a17E
              (repeat' ((fail_if_success (with_reducible first | refine stop_h ?_ | refine stop_c ?_ | refine stop_s ?_ | refine stop_i ?_ | refine stop_l ?_ | refine stop_m ?_ | refine stop_o ?_ | refine stop_n ?_ | refine stop_e ?_ | refine stop_b ?_)); first
    | with_reducible first | exact ⟨⟩ | (refine gB ?_; intros) | refine gT ?_ ?_
    | refine gs ?_
    | refine sx ?_))
              refine call_k (law23terms (n := 4) (blast := 0) (by decide)) ?_
              rintro _ wH nH sH ⟨d7, av2, BL, rfl, kd7, od7, hd7⟩
              have oned := od7.one
              have rH := Ext.refl wH
              (repeat' ((fail_if_success (with_reducible first | refine stop_h ?_ | refine stop_c ?_ | refine stop_s ?_ | refine stop_i ?_ | refine stop_l ?_ | refine stop_m ?_ | refine stop_o ?_ | refine stop_n ?_ | refine stop_e ?_ | refine stop_b ?_)); first
    | with_reducible first | exact ⟨⟩ | (refine gB ?_; intros) | refine gT ?_ ?_
    | refine gs ?_
    | refine sx ?_))
              rename_i tb wI nI kI sI qI wJ nJ kJ sJ ta wK nK kK sK qK
              have hne1 : ¬ ta = tb := by have h1 := (show Blk wJ tb _ _ from kJ.2.1 _ kJ.2.2.1).lt; have h2 := (show wJ.heap.size ≤ ta from FR); omega
              refine st_one (i := 1) KR (by simp) rfl fun wL nL kL sL => ?_
              simp only [List.set_cons_succ, List.set_cons_zero] at kL
              (repeat' ((fail_if_success (with_reducible first | refine stop_h ?_ | refine stop_c ?_ | refine stop_s ?_ | refine stop_i ?_ | refine stop_l ?_ | refine stop_m ?_ | refine stop_o ?_ | refine stop_n ?_ | refine stop_e ?_ | refine stop_b ?_)); first
    | with_reducible first | exact ⟨⟩ | (refine gB ?_; intros) | refine gT ?_ ?_
    | refine gs ?_
    | refine sx ?_))
              rename_i tq wM nM kM sM qM lM
              have hne2 : ¬ tq = tb := by have h1 := (show Blk wL tb _ _ from kL.2.1 _ kL.2.2.1).lt; have h2 := (show wL.heap.size ≤ tq from FR); omega
              have hne3 : ¬ tq = ta := by have h1 := (show Blk wL ta _ _ from kK.2.1 _ FR).lt; have h2 := (show wL.heap.size ≤ tq from FR); omega
              have hne4 : ¬ tq = d7 := by have h1 := kd7.lt; have h2 := (show wH.heap.size ≤ tq from FR); omega
              refine st_one (i := 5) KR (by simp) rfl fun wN nN kN sN => ?_
              simp only [List.set_cons_succ, List.set_cons_zero] at kN
              have KN : Blk wN tb 41 [.slice none 0 0, .slice (some ⟨ta, 0, none⟩) 1 1, .int .i64 0, .slice none 0 0, .slice (some ⟨d7, 0, none⟩) 8 8, .slice (some ⟨tq, 0, none⟩) 4 4, .int .i64 0, .int .i64 100] := kN.2.1 _ kN.2.2.1
              have KA : Blk wN ta 81 [.int .u8 1, .int .i64 0] := kK.2.1 _ FR
              have KQ : Blk wN tq 3 [.int .i64 5, .int .i64 7, .int .i64 (-1), .int .i64 (-1)] := kM.2.1 _ FR
              have hxHN : Ext wH wN := FR
              have KD : Blk wN d7 3 takesV := kd7.ext hxHN
              have hxGN : Ext wG wN := FR
              have IN : Hid (KnC c0 c1 c2 c5 u p1 p4 bh bp e0 e1 e2 e3 e4 e5 e6 eb ee ew wN) := IG.out.ext hxGN
              have kh := IN.out.kh.bk
              have kp := IN.out.kp.bk
              have hEN : Hid (Blk wN b8 45 [tvE, .int .i64 0]) := hE0.out.ext hxGN
              have oEN : Hid (Own wN BE 3 1 tvE (([] : List Int).map intC)) := oE0.out.ext hxGN
              have hxwN : Ext w wN := hxwG.trans hxGN
              have sN' := hxwN.st
              have rN := Ext.refl wN
              have hqG : wG.heap.size ≤ tq := FR
              clear sH sI sJ sK sL sM sN qI qK qM lM kI kJ kK kL kM kN hxHN sG nG0 rH kd7 od7 hd7 oned q8 nw8 hEN oEN
              have kb := KN.bk
              have kq := KQ.bk
              have kd := KD.bk
              have ka := KA.bk
              have ht1 : Int.toNat 1 = 1 := rfl
              have hne5 : ¬ d7 = tq := fun e => hne4 e.symm
              have hne6 : ¬ ta = tq := fun e => hne3 e.symm
              have hne7 : ¬ tb = tq := fun e => hne2 e.symm
              (repeat' ((fail_if_success (with_reducible first | refine stop_h ?_ | refine stop_c ?_ | refine stop_s ?_ | refine stop_i ?_ | refine stop_l ?_ | refine stop_m ?_ | refine stop_o ?_ | refine stop_n ?_ | refine stop_e ?_ | refine stop_b ?_)); first
    | with_reducible first | exact ⟨⟩ | (refine gB ?_; intros) | refine gT ?_ ?_
    | refine gs ?_
    | refine sx ?_))
              have hMk : CallsV Tryz.prog 11 #[.agg #[.slice (some ⟨c0, 0, none⟩) 1 1, .slice (some ⟨c1, 0, none⟩) 1 1, .slice (some ⟨c2, 0, none⟩) 1 1, .slice (some ⟨c5, 0, none⟩) 2 2, .int .i64 1, .slice none 0 0, u], .agg #[.slice (some ⟨p1, 0, none⟩) 4 4, .slice (some ⟨p4, 0, none⟩) 4 4], .agg #[.slice none 0 0, .slice (some ⟨ta, 0, none⟩) 1 1, .int .i64 0, .slice none 0 0, .slice (some ⟨d7, 0, none⟩) 8 8, .slice (some ⟨tq, 0, none⟩) 4 4, .int .i64 0, .int .i64 100]] wN (fun r w' => Ext wN w' ∧ ∃ tv, r = .tuple #[.agg #[tv, .int .i64 9], .int .i64 (-1), .int .i64 0] ∧ Own w' wN.heap.size 3 1 tv (([5, 7, 0, 2] : List Int).map intC)) := two_makeW (q := ⟨.slice none 0 0, .slice (some ⟨ta, 0, none⟩) 1 1, .slice none 0 0, .slice (some ⟨d7, 0, none⟩) 8 8, .slice (some ⟨tq, 0, none⟩) 4 4⟩) (x := knLate 7) IN.out.h IN.out.p (late_terms KA KD KQ) kn_late
              refine call_k hMk ?_
              rintro _ wO nO sO ⟨tt, rfl, hoT⟩
              have honeT := hoT.one
              have rO := Ext.refl wO
              have hxGO : Ext wG wO := FR
              refine wpl_hold (fun g => g 1 = .pointer (some ⟨bh, 0, none⟩) ∧ g 2 = .pointer (some ⟨bp, 0, none⟩) ∧ g 12 = .int .i64 1 ∧ g 14 = .int .i64 1 ∧ g 17 = .int .i64 1 ∧ g 20 = .int .i64 (-1) ∧ g 21 = .int .i64 1 ∧ g 22 = .pointer (some ⟨b8, 0, none⟩) ∧ g 23 = .int .i64 (-1) ∧ g 24 = .int .i64 0 ∧ g 25 = .pointer (some ⟨tb, 0, none⟩) ∧ g 179 = .tuple #[.agg #[tt, .int .i64 9], .int .i64 (-1), .int .i64 0]) ?_ ?_
              · (repeat' ((fail_if_success (with_reducible first | refine stop_h ?_ | refine stop_c ?_ | refine stop_s ?_ | refine stop_i ?_ | refine stop_l ?_ | refine stop_m ?_ | refine stop_o ?_ | refine stop_n ?_ | refine stop_e ?_ | refine stop_b ?_)); first
    | with_reducible first | exact ⟨⟩ | (refine gB ?_; intros) | refine gT ?_ ?_
    | refine gs ?_
    | refine sx ?_))
              rintro gga ⟨ga1, ga2, ga12, ga14, ga17, ga20, ga21, ga22, ga23, ga24, ga25, ga179⟩
              (repeat' ((fail_if_success (with_reducible first | refine stop_h ?_ | refine stop_c ?_ | refine stop_s ?_ | refine stop_i ?_ | refine stop_l ?_ | refine stop_m ?_ | refine stop_o ?_ | refine stop_n ?_ | refine stop_e ?_ | refine stop_b ?_)); first
    | with_reducible first | exact ⟨⟩ | (refine gB ?_; intros) | refine gT ?_ ?_
    | refine gs ?_
    | refine sx ?_))
              rename_i tR wP nP kP sP qP wQ nQ kQ sQ
              have hxOQ : Ext wO wQ := FR
              have hxGQ : Ext wG wQ := hxGO.trans hxOQ
              have hoQ := hoT.ext hxOQ
              have cQ : Cg tq wQ wQ := Chg.refl' _ _
              have hxNO : Ext wN wO := FR
              have hxNQ : Ext wN wQ := hxNO.trans hxOQ
              refine st_one (i := 1) KR (by simp) rfl fun wR nR kR sR => ?_
              simp only [List.set_cons_succ, List.set_cons_zero] at kR
              have cR : Cg tq wQ wR := FR
              have hoR : Own wR wN.heap.size 3 1 tt (([5, 7, 0, 2] : List Int).map intC) := hoQ.chg cR (fun e => by have h1 := (hoQ.lt _ e).1; have h2 := KQ.lt; omega)
              have KQR : Blk wR tq 3 [.int .i64 5, .int .i64 (-1), .int .i64 (-1), .int .i64 (-1)] := kR.2.1 _ kR.2.2.1
              have KNR : Blk wR tb 41 [.slice none 0 0, .slice (some ⟨ta, 0, none⟩) 1 1, .int .i64 0, .slice none 0 0, .slice (some ⟨d7, 0, none⟩) 8 8, .slice (some ⟨tq, 0, none⟩) 4 4, .int .i64 0, .int .i64 100] := kb.2.1 _ FR
              have KDR : Blk wR d7 3 takesV := kd.2.1 _ FR
              have KAR : Blk wR ta 81 [.int .u8 1, .int .i64 0] := ka.2.1 _ FR
              have KTR : Blk wR tR 45 [tt, .int .i64 9] := by
                have hn : ¬ tR = tq := by have h1 := KQ.lt; have h2 := hxNO.size; have h3 := (show wO.heap.size ≤ tR from FR); omega
                exact kQ.2.1 _ FR
              have hxGR : Ext wG wR := FR
              have IR : Hid (KnC c0 c1 c2 c5 u p1 p4 bh bp e0 e1 e2 e3 e4 e5 e6 eb ee ew wR) := IG.out.ext hxGR
              have hER : Hid (Blk wR b8 45 [tvE, .int .i64 0]) := hE0.out.ext hxGR
              have oER : Hid (Own wR BE 3 1 tvE (([] : List Int).map intC)) := oE0.out.ext hxGR
              have hxwR : Ext w wR := hxwG.trans hxGR
              clear kP sP qP kQ sQ sR kR kb kq kd ka kh kp sN' rN hMk sO rO hxGO hxOQ hxGQ hoQ cQ cR hoT hxNO hxNQ KN KA KQ KD IN IG hE0 oE0 hxwG hxGN hxwN rG hqG hxGR nP nQ nN nO nM nL nK nJ nI nH
              have sR' := hxwR.st
              have rR := Ext.refl wR
              have kh := IR.out.kh.bk
              have kp := IR.out.kp.bk
              have kb := KNR.bk
              have kt := KTR.bk
              have ke := hER.out.bk
              (repeat' ((fail_if_success (with_reducible first | refine stop_h ?_ | refine stop_c ?_ | refine stop_s ?_ | refine stop_i ?_ | refine stop_l ?_ | refine stop_m ?_ | refine stop_o ?_ | refine stop_n ?_ | refine stop_e ?_ | refine stop_b ?_)); first
    | with_reducible first | exact ⟨⟩ | (refine gB ?_; intros) | refine gT ?_ ?_
    | refine gs ?_
    | refine sx ?_))
              have hMk : CallsV Tryz.prog 11 #[.agg #[.slice (some ⟨c0, 0, none⟩) 1 1, .slice (some ⟨c1, 0, none⟩) 1 1, .slice (some ⟨c2, 0, none⟩) 1 1, .slice (some ⟨c5, 0, none⟩) 2 2, .int .i64 1, .slice none 0 0, u], .agg #[.slice (some ⟨p1, 0, none⟩) 4 4, .slice (some ⟨p4, 0, none⟩) 4 4], .agg #[.slice none 0 0, .slice (some ⟨ta, 0, none⟩) 1 1, .int .i64 0, .slice none 0 0, .slice (some ⟨d7, 0, none⟩) 8 8, .slice (some ⟨tq, 0, none⟩) 4 4, .int .i64 0, .int .i64 100]] wR (fun r w' => Ext wR w' ∧ ∃ tv, r = .tuple #[.agg #[tv, .int .i64 0], .int .i64 1, .int .i64 7] ∧ Own w' wR.heap.size 3 1 tv (([] : List Int).map intC)) := two_makeW (q := ⟨.slice none 0 0, .slice (some ⟨ta, 0, none⟩) 1 1, .slice none 0 0, .slice (some ⟨d7, 0, none⟩) 8 8, .slice (some ⟨tq, 0, none⟩) 4 4⟩) (x := knLate (-1)) IR.out.h IR.out.p (late_terms KAR KDR KQR) kn_stuck
              refine call_k hMk ?_
              rintro _ wS nS sS ⟨t2, rfl, ho2⟩
              have hone2 := ho2.one
              have rS := Ext.refl wS
              have hE1 := oER.out.one
              have hEs := (oER.out.sl1 (f := intV)).sl
              have hEl : lenN tvE = 0 := (oER.out.sl1 (f := intV)).len
              refine wpl_hold (fun g => g 1 = .pointer (some ⟨bh, 0, none⟩) ∧ g 2 = .pointer (some ⟨bp, 0, none⟩) ∧ g 12 = .int .i64 1 ∧ g 14 = .int .i64 1 ∧ g 17 = .int .i64 1 ∧ g 20 = .int .i64 (-1) ∧ g 21 = .int .i64 1 ∧ g 22 = .pointer (some ⟨b8, 0, none⟩) ∧ g 23 = .int .i64 (-1) ∧ g 24 = .int .i64 0 ∧ g 26 = .pointer (some ⟨tR, 0, none⟩) ∧ g 28 = .int .i64 0 ∧ g 190 = .tuple #[.agg #[t2, .int .i64 0], .int .i64 1, .int .i64 7]) ?_ ?_
              · (repeat' ((fail_if_success (with_reducible first | refine stop_h ?_ | refine stop_c ?_ | refine stop_s ?_ | refine stop_i ?_ | refine stop_l ?_ | refine stop_m ?_ | refine stop_o ?_ | refine stop_n ?_ | refine stop_e ?_ | refine stop_b ?_)); first
    | with_reducible first | exact ⟨⟩ | (refine gB ?_; intros) | refine gT ?_ ?_
    | refine gs ?_
    | refine sx ?_))
              rintro ggb ⟨gb1, gb2, gb12, gb14, gb17, gb20, gb21, gb22, gb23, gb24, gb26, gb28, gb190⟩
              (repeat' ((fail_if_success (with_reducible first | refine stop_h ?_ | refine stop_c ?_ | refine stop_s ?_ | refine stop_i ?_ | refine stop_l ?_ | refine stop_m ?_ | refine stop_o ?_ | refine stop_n ?_ | refine stop_e ?_ | refine stop_b ?_)); first
    | with_reducible first | exact ⟨⟩ | (refine gB ?_; intros) | refine gT ?_ ?_
    | refine gs ?_
    | refine sx ?_))
              rename_i tS wT nT kT sT qT wU nU kU sU tY wV nV kV sV qV lV
              have hxRV : Ext wR wV := FR
              have hoV := hoR.ext hxRV
              have KY : Blk wV tY 3 (([5, 7, 0, 2] : List Int).map intV) := kV.2.1 _ kV.2.2.1
              have IV : Hid (KnC c0 c1 c2 c5 u p1 p4 bh bp e0 e1 e2 e3 e4 e5 e6 eb ee ew wV) := IR.out.ext hxRV
              have hxwV : Ext w wV := hxwR.trans hxRV
              clear kh kp kb kt ke sR' rR hMk sS rS hE1 hEs hEl kT sT qT kU sU kV sV qV lV IR hER oER hxwR KNR KDR KAR KQR KTR ho2 hone2
              have sV' := hxwV.st
              have rV := Ext.refl wV
              have kh := IV.out.kh.bk
              have kp := IV.out.kp.bk
              refine ret_k (same_of hoV KY rfl (by decide) KR) fun wW nW sW => ?_
              (repeat' ((fail_if_success (with_reducible first | refine stop_h ?_ | refine stop_c ?_ | refine stop_s ?_ | refine stop_i ?_ | refine stop_l ?_ | refine stop_m ?_ | refine stop_o ?_ | refine stop_n ?_ | refine stop_e ?_ | refine stop_b ?_)); first
    | with_reducible first | exact ⟨⟩ | (refine gB ?_; intros) | refine gT ?_ ?_
    | refine gs ?_
    | refine sx ?_))
              have rW := Ext.refl wW
              refine call_k (law23termsW (n := 4) (blast := 17) (by decide)) ?_
              rintro _ u0 nu0 su0 ⟨f0, vv0, rfl, kf0, of0, hf0', lf0⟩
              have one0 := of0.one
              have ru0 := Ext.refl u0
              refine wpl_hold (fun g => g 1 = .pointer (some ⟨bh, 0, none⟩) ∧ g 2 = .pointer (some ⟨bp, 0, none⟩) ∧ g 250 = .agg #[.slice none 0 0, .slice none 0 0, .int .i64 17, .slice none 0 0, .slice (some ⟨f0, 0, none⟩) 8 8, vv0, .int .i64 0, .int .i64 100]) ?_ ?_
              · (repeat' ((fail_if_success (with_reducible first | refine stop_h ?_ | refine stop_c ?_ | refine stop_s ?_ | refine stop_i ?_ | refine stop_l ?_ | refine stop_m ?_ | refine stop_o ?_ | refine stop_n ?_ | refine stop_e ?_ | refine stop_b ?_)); first
    | with_reducible first | exact ⟨⟩ | (refine gB ?_; intros) | refine gT ?_ ?_
    | refine gs ?_
    | refine sx ?_))
              rintro gc ⟨gc1, gc2, gc250⟩
              (repeat' ((fail_if_success (with_reducible first | refine stop_h ?_ | refine stop_c ?_ | refine stop_s ?_ | refine stop_i ?_ | refine stop_l ?_ | refine stop_m ?_ | refine stop_o ?_ | refine stop_n ?_ | refine stop_e ?_ | refine stop_b ?_)); first
    | with_reducible first | exact ⟨⟩ | (refine gB ?_; intros) | refine gT ?_ ?_
    | refine gs ?_
    | refine sx ?_))
              refine call_k (law23termsW (n := 4) (blast := -1) (by decide)) ?_
              rintro _ u1 nu1 su1 ⟨f1, vv1, rfl, kf1, of1, hf1', lf1⟩
              have one1 := of1.one
              have ru1 := Ext.refl u1
              (repeat' ((fail_if_success (with_reducible first | refine stop_h ?_ | refine stop_c ?_ | refine stop_s ?_ | refine stop_i ?_ | refine stop_l ?_ | refine stop_m ?_ | refine stop_o ?_ | refine stop_n ?_ | refine stop_e ?_ | refine stop_b ?_)); first
    | with_reducible first | exact ⟨⟩ | (refine gB ?_; intros) | refine gT ?_ ?_
    | refine gs ?_
    | refine sx ?_))
              refine call_k (law23termsW (n := 4) (blast := 0) (by decide)) ?_
              rintro _ u2 nu2 su2 ⟨f2, vv2, rfl, kf2, of2, hf2', lf2⟩
              have one2 := of2.one
              have ru2 := Ext.refl u2
              (repeat' ((fail_if_success (with_reducible first | refine stop_h ?_ | refine stop_c ?_ | refine stop_s ?_ | refine stop_i ?_ | refine stop_l ?_ | refine stop_m ?_ | refine stop_o ?_ | refine stop_n ?_ | refine stop_e ?_ | refine stop_b ?_)); first
    | with_reducible first | exact ⟨⟩ | (refine gB ?_; intros) | refine gT ?_ ?_
    | refine gs ?_
    | refine sx ?_))
              refine call_k (law23termsW (n := 4) (blast := 0) (by decide)) ?_
              rintro _ u3 nu3 su3 ⟨f3, vv3, rfl, kf3, of3, hf3', lf3⟩
              have one3 := of3.one
              have ru3 := Ext.refl u3
              (repeat' ((fail_if_success (with_reducible first | refine stop_h ?_ | refine stop_c ?_ | refine stop_s ?_ | refine stop_i ?_ | refine stop_l ?_ | refine stop_m ?_ | refine stop_o ?_ | refine stop_n ?_ | refine stop_e ?_ | refine stop_b ?_)); first
    | with_reducible first | exact ⟨⟩ | (refine gB ?_; intros) | refine gT ?_ ?_
    | refine gs ?_
    | refine sx ?_))
              refine call_k (law23termsW (n := 4) (blast := 0) (by decide)) ?_
              rintro _ u4 nu4 su4 ⟨f4, vv4, rfl, kf4, of4, hf4', lf4⟩
              have one4 := of4.one
              have ru4 := Ext.refl u4
              (repeat' ((fail_if_success (with_reducible first | refine stop_h ?_ | refine stop_c ?_ | refine stop_s ?_ | refine stop_i ?_ | refine stop_l ?_ | refine stop_m ?_ | refine stop_o ?_ | refine stop_n ?_ | refine stop_e ?_ | refine stop_b ?_)); first
    | with_reducible first | exact ⟨⟩ | (refine gB ?_; intros) | refine gT ?_ ?_
    | refine gs ?_
    | refine sx ?_))
              refine call_k (law23termsW (n := 4) (blast := 0) (by decide)) ?_
              rintro _ u5 nu5 su5 ⟨f5, vv5, rfl, kf5, of5, hf5', lf5⟩
              have one5 := of5.one
              have ru5 := Ext.refl u5
              obtain ⟨g5, cp5, rfl⟩ := own_four of5 rfl
              (repeat' ((fail_if_success (with_reducible first | refine stop_h ?_ | refine stop_c ?_ | refine stop_s ?_ | refine stop_i ?_ | refine stop_l ?_ | refine stop_m ?_ | refine stop_o ?_ | refine stop_n ?_ | refine stop_e ?_ | refine stop_b ?_)); first
    | with_reducible first | exact ⟨⟩ | (refine gB ?_; intros) | refine gT ?_ ?_
    | refine gs ?_
    | refine sx ?_))
              refine call_k (law23termsW (n := 4) (blast := 0) (by decide)) ?_
              rintro _ u6 nu6 su6 ⟨f6, vv6, rfl, kf6, of6, hf6', lf6⟩
              have one6 := of6.one
              have ru6 := Ext.refl u6
              (repeat' ((fail_if_success (with_reducible first | refine stop_h ?_ | refine stop_c ?_ | refine stop_s ?_ | refine stop_i ?_ | refine stop_l ?_ | refine stop_m ?_ | refine stop_o ?_ | refine stop_n ?_ | refine stop_e ?_ | refine stop_b ?_)); first
    | with_reducible first | exact ⟨⟩ | (refine gB ?_; intros) | refine gT ?_ ?_
    | refine gs ?_
    | refine sx ?_))
              rename_i tB za na2 ka2 sa2 qa2
              have hxWa : Ext wW za := FR
              have hxVW : Ext wV wW := FR
              have hqB : u6.heap.size ≤ tB := FR
              have xu0 : Ext u0 za := FR
              have xu1 : Ext u1 za := FR
              have xu2 : Ext u2 za := FR
              have xu3 : Ext u3 za := FR
              have xu4 : Ext u4 za := FR
              have xu5 : Ext u5 za := FR
              have xu6 : Ext u6 za := FR
              have zu0 : wW.heap.size ≤ u0.heap.size := (show Ext wW u0 from FR).size
              have zu1 : u0.heap.size ≤ u1.heap.size := (show Ext u0 u1 from FR).size
              have zu2 : u1.heap.size ≤ u2.heap.size := (show Ext u1 u2 from FR).size
              have zu3 : u2.heap.size ≤ u3.heap.size := (show Ext u2 u3 from FR).size
              have zu4 : u3.heap.size ≤ u4.heap.size := (show Ext u3 u4 from FR).size
              have zu5 : u4.heap.size ≤ u5.heap.size := (show Ext u4 u5 from FR).size
              have zu6 : u5.heap.size ≤ u6.heap.size := (show Ext u5 u6 from FR).size
              have SV0 : Hid (Sev (fun i => [wW.heap.size, u0.heap.size, u1.heap.size, u2.heap.size, u3.heap.size, u4.heap.size, u5.heap.size, u6.heap.size].getD i 0) (fun i => [f0, f1, f2, f3, f4, f5, f6].getD i 0) (fun i => [vv0, vv1, vv2, vv3, vv4, .slice (some ⟨g5, 0, none⟩) 4 cp5, vv6].getD i (.bool false)) (fun i => ([[0, 2, 2, 2, 2, 2, 2, 2], [0, 2, 2, 2, 2, 2, 2, 2], [0, 2, 2, 2, 2, 2, 2, 2], [0, 2, 2, 2, 2, 2, 2, 2], [0, 2, 2, 2, 2, 2, 2, 2], [0, 2, 2, 2, 2, 2, 2, 2], [0, 2, 2, 2, 2, 2, 2, 2]].getD i ([] : List Int)).map intV) (fun i => [[-1, -1, -1, -1], [-1, -1, -1, -1], [-1, -1, -1, -1], [-1, -1, -1, -1], [-1, -1, -1, -1], [-1, -1, -1, -1], [-1, -1, -1, -1]].getD i ([] : List Int)) za) := ⟨seven (kf0.ext xu0) (kf1.ext xu1) (kf2.ext xu2) (kf3.ext xu3) (kf4.ext xu4) (kf5.ext xu5) (kf6.ext xu6), seven (of0.ext xu0) (of1.ext xu1) (of2.ext xu2) (of3.ext xu3) (of4.ext xu4) (of5.ext xu5) (of6.ext xu6), seven (⟨lf0, kf0.lt⟩) (⟨lf1, kf1.lt⟩) (⟨lf2, kf2.lt⟩) (⟨lf3, kf3.lt⟩) (⟨lf4, kf4.lt⟩) (⟨lf5, kf5.lt⟩) (⟨lf6, kf6.lt⟩), seven (of0.lt) (of1.lt) (of2.lt) (of3.lt) (of4.lt) (of5.lt) (of6.lt), seven (zu0) (zu1) (zu2) (zu3) (zu4) (zu5) (zu6), seven (hf0') (hf1') (hf2') (hf3') (hf4') (hf5') (hf6')⟩
              have hf3 : wV.heap.size ≤ f3 ∧ f3 < u6.heap.size := by have h1 := kf3.lt; have h2 := hxVW.size; omega
              have hg5 : wV.heap.size ≤ g5 ∧ g5 < u6.heap.size := by have h1 := of5.lt g5 rfl; have h2 := hxVW.size; omega
              have hn1 : ¬ tB = f3 := by omega
              have hn2 : ¬ f3 = tB := by omega
              have hn3 : ¬ tB = g5 := by omega
              have hn4 : ¬ g5 = tB := by omega
              have hqV : wV.heap.size ≤ tB := by have h2 := hxVW.size; omega
              have hqf := hf3.1
              have hqg := hg5.1
              have hxVa : Ext wV za := hxVW.trans hxWa
              have sVa := hxVa.st
              have ht2 : Int.toNat 2 = 2 := rfl
              have ht3 : Int.toNat 3 = 3 := rfl
              have ht4 : Int.toNat 4 = 4 := rfl
              have ht5 : Int.toNat 5 = 5 := rfl
              have ht6 : Int.toNat 6 = 6 := rfl
              have ht7 : Int.toNat 7 = 7 := rfl
              have ht0 : Int.toNat 0 = 0 := rfl
              have cg0 : Cg tB za za := Chg.refl' _ _
              have hza := ka2.2.1 _ ka2.2.2.1
              clear kf0 of0 lf0 xu0 zu0 su0 ru0 nu0 kf1 of1 lf1 xu1 zu1 su1 ru1 nu1 kf2 of2 lf2 xu2 zu2 su2 ru2 nu2 kf3 of3 lf3 xu3 zu3 su3 ru3 nu3 kf4 of4 lf4 xu4 zu4 su4 ru4 nu4 kf5 of5 lf5 xu5 zu5 su5 ru5 nu5 kf6 of6 lf6 xu6 zu6 su6 ru6 nu6 hf0' hf1' hf2' hf3' hf4' hf5' hf6' hf3 hg5 hxWa hxVW hqB sW sV' kh kp qa2 sa2 hoR hoV KY hxRV nR nS nT nU nW
              have r9a := Ext.refl za
              (repeat' ((fail_if_success (with_reducible first | refine stop_h ?_ | refine stop_c ?_ | refine stop_s ?_ | refine stop_i ?_ | refine stop_l ?_ | refine stop_m ?_ | refine stop_o ?_ | refine stop_n ?_ | refine stop_e ?_ | refine stop_b ?_)); first
    | with_reducible first | exact ⟨⟩ | (refine gB ?_; intros) | refine gT ?_ ?_
    | refine gs ?_
    | refine sx ?_))
              refine st_one (i := 22) KR (by simp) rfl fun zb nb2 kb2 sb2 => ?_
              simp only [List.set_cons_succ, List.set_cons_zero] at kb2
              have cgh1 : Cg tB za zb := FR
              have SV1 : Hid (Sev (fun i => [wW.heap.size, u0.heap.size, u1.heap.size, u2.heap.size, u3.heap.size, u4.heap.size, u5.heap.size, u6.heap.size].getD i 0) (fun i => [f0, f1, f2, f3, f4, f5, f6].getD i 0) (fun i => [vv0, vv1, vv2, vv3, vv4, .slice (some ⟨g5, 0, none⟩) 4 cp5, vv6].getD i (.bool false)) (fun i => ([[0, 2, 2, 2, 2, 2, 2, 2], [0, 2, 2, 2, 2, 2, 2, 2], [0, 2, 2, 2, 2, 2, 2, 2], [0, 2, 2, 2, 2, 2, 2, 2], [0, 2, 2, 2, 2, 2, 2, 2], [0, 2, 2, 2, 2, 2, 2, 2], [0, 2, 2, 2, 2, 2, 2, 2]].getD i ([] : List Int)).map intV) (fun i => [[-1, -1, -1, -1], [-1, -1, -1, -1], [-1, -1, -1, -1], [-1, -1, -1, -1], [-1, -1, -1, -1], [-1, -1, -1, -1], [-1, -1, -1, -1]].getD i ([] : List Int)) zb) := SV0.out.fr hza cgh1
              have k3 : Bk zb f3 3 [.int .i64 0, .int .i64 2, .int .i64 2, .int .i64 2, .int .i64 2, .int .i64 2, .int .i64 2, .int .i64 2] := (show Blk zb f3 3 [.int .i64 0, .int .i64 2, .int .i64 2, .int .i64 2, .int .i64 2, .int .i64 2, .int .i64 2, .int .i64 2] from SV1.out.k 3 (by decide)).bk
              have cg1 : Cg f3 zb zb := Chg.refl' _ _
              clear hza cg0
              (repeat' ((fail_if_success (with_reducible first | refine stop_h ?_ | refine stop_c ?_ | refine stop_s ?_ | refine stop_i ?_ | refine stop_l ?_ | refine stop_m ?_ | refine stop_o ?_ | refine stop_n ?_ | refine stop_e ?_ | refine stop_b ?_)); first
    | with_reducible first | exact ⟨⟩ | (refine gB ?_; intros) | refine gT ?_ ?_
    | refine gs ?_
    | refine sx ?_))
              refine st_one (i := 7) KR (by simp) rfl fun zc nc2 kc2 sc2 => ?_
              have cgh2 : Cg f3 zb zc := FR
              have kc3 : Blk zc f3 3 ([0, 2, 2, 2, 2, 2, 2, 0].map intV) := kc2.2.1 _ kc2.2.2.1
              have SV2 : Hid (Sev (fun i => [wW.heap.size, u0.heap.size, u1.heap.size, u2.heap.size, u3.heap.size, u4.heap.size, u5.heap.size, u6.heap.size].getD i 0) (fun i => [f0, f1, f2, f3, f4, f5, f6].getD i 0) (fun i => [vv0, vv1, vv2, vv3, vv4, .slice (some ⟨g5, 0, none⟩) 4 cp5, vv6].getD i (.bool false)) (fun i => ([[0, 2, 2, 2, 2, 2, 2, 2], [0, 2, 2, 2, 2, 2, 2, 2], [0, 2, 2, 2, 2, 2, 2, 2], [0, 2, 2, 2, 2, 2, 2, 0], [0, 2, 2, 2, 2, 2, 2, 2], [0, 2, 2, 2, 2, 2, 2, 2], [0, 2, 2, 2, 2, 2, 2, 2]].getD i ([] : List Int)).map intV) (fun i => [[-1, -1, -1, -1], [-1, -1, -1, -1], [-1, -1, -1, -1], [-1, -1, -1, -1], [-1, -1, -1, -1], [-1, -1, -1, -1], [-1, -1, -1, -1]].getD i ([] : List Int)) zc) := SV1.out.setC (j := 3) (by decide) cgh2 kc3 (seven (fun _ => rfl) (fun _ => rfl) (fun _ => rfl) (fun h => absurd rfl h) (fun _ => rfl) (fun _ => rfl) (fun _ => rfl))
              have kb3 : Bk zc tB 41 _ := (kb2.2.1 zc FR).bk
              have cg2 : Cg tB zc zc := Chg.refl' _ _
              have hzc := kb3.2.1 zc kb3.2.2.1
              clear SV0 SV1 k3 cg1 cgh1 cgh2 kc2 kc3 kb2 ka2 r9a
              (repeat' ((fail_if_success (with_reducible first | refine stop_h ?_ | refine stop_c ?_ | refine stop_s ?_ | refine stop_i ?_ | refine stop_l ?_ | refine stop_m ?_ | refine stop_o ?_ | refine stop_n ?_ | refine stop_e ?_ | refine stop_b ?_)); first
    | with_reducible first | exact ⟨⟩ | (refine gB ?_; intros) | refine gT ?_ ?_
    | refine gs ?_
    | refine sx ?_))
              refine slice_hiR (m := 7) (by omega) ?_
              (repeat' ((fail_if_success (with_reducible first | refine stop_h ?_ | refine stop_c ?_ | refine stop_s ?_ | refine stop_i ?_ | refine stop_l ?_ | refine stop_m ?_ | refine stop_o ?_ | refine stop_n ?_ | refine stop_e ?_ | refine stop_b ?_)); first
    | with_reducible first | exact ⟨⟩ | (refine gB ?_; intros) | refine gT ?_ ?_
    | refine gs ?_
    | refine sx ?_))
              refine st_one (i := 36) KR (by simp) rfl fun zd nd2 kd2 sd2 => ?_
              simp only [List.set_cons_succ, List.set_cons_zero] at kd2
              have cgh3 : Cg tB zc zd := FR
              have SV3 : Hid (Sev (fun i => [wW.heap.size, u0.heap.size, u1.heap.size, u2.heap.size, u3.heap.size, u4.heap.size, u5.heap.size, u6.heap.size].getD i 0) (fun i => [f0, f1, f2, f3, f4, f5, f6].getD i 0) (fun i => [vv0, vv1, vv2, vv3, vv4, .slice (some ⟨g5, 0, none⟩) 4 cp5, vv6].getD i (.bool false)) (fun i => ([[0, 2, 2, 2, 2, 2, 2, 2], [0, 2, 2, 2, 2, 2, 2, 2], [0, 2, 2, 2, 2, 2, 2, 2], [0, 2, 2, 2, 2, 2, 2, 0], [0, 2, 2, 2, 2, 2, 2, 2], [0, 2, 2, 2, 2, 2, 2, 2], [0, 2, 2, 2, 2, 2, 2, 2]].getD i ([] : List Int)).map intV) (fun i => [[-1, -1, -1, -1], [-1, -1, -1, -1], [-1, -1, -1, -1], [-1, -1, -1, -1], [-1, -1, -1, -1], [-1, -1, -1, -1], [-1, -1, -1, -1]].getD i ([] : List Int)) zd) := SV2.out.fr hzc cgh3
              clear SV2 hzc cg2 cgh3 kb3
              (repeat' ((fail_if_success (with_reducible first | refine stop_h ?_ | refine stop_c ?_ | refine stop_s ?_ | refine stop_i ?_ | refine stop_l ?_ | refine stop_m ?_ | refine stop_o ?_ | refine stop_n ?_ | refine stop_e ?_ | refine stop_b ?_)); first
    | with_reducible first | exact ⟨⟩ | (refine gB ?_; intros) | refine gT ?_ ?_
    | refine gs ?_
    | refine sx ?_))
              refine own_store (l := [-1, -1, -1, -1]) (SV3.out.o 5 (by decide)) (by decide) fun ze ne2 oe2 se2 ce2 => ?_
              have SV4 : Hid (Sev (fun i => [wW.heap.size, u0.heap.size, u1.heap.size, u2.heap.size, u3.heap.size, u4.heap.size, u5.heap.size, u6.heap.size].getD i 0) (fun i => [f0, f1, f2, f3, f4, f5, f6].getD i 0) (fun i => [vv0, vv1, vv2, vv3, vv4, .slice (some ⟨g5, 0, none⟩) 4 cp5, vv6].getD i (.bool false)) (fun i => ([[0, 2, 2, 2, 2, 2, 2, 2], [0, 2, 2, 2, 2, 2, 2, 2], [0, 2, 2, 2, 2, 2, 2, 2], [0, 2, 2, 2, 2, 2, 2, 0], [0, 2, 2, 2, 2, 2, 2, 2], [0, 2, 2, 2, 2, 2, 2, 2], [0, 2, 2, 2, 2, 2, 2, 2]].getD i ([] : List Int)).map intV) (fun i => [[-1, -1, -1, -1], [-1, -1, -1, -1], [-1, -1, -1, -1], [-1, -1, -1, -1], [-1, -1, -1, -1], [-2, -1, -1, -1], [-1, -1, -1, -1]].getD i ([] : List Int)) ze) := SV3.out.setO (j := 5) (by decide) rfl ce2 oe2 (seven (fun _ => rfl) (fun _ => rfl) (fun _ => rfl) (fun _ => rfl) (fun _ => rfl) (fun h => absurd rfl h) (fun _ => rfl))
              have ke2 : Bk ze tB 41 _ := (kd2.2.1 ze FR).bk
              clear SV3 kd2 oe2
              have re2 := Ext.refl ze
              (repeat' ((fail_if_success (with_reducible first | refine stop_h ?_ | refine stop_c ?_ | refine stop_s ?_ | refine stop_i ?_ | refine stop_l ?_ | refine stop_m ?_ | refine stop_o ?_ | refine stop_n ?_ | refine stop_e ?_ | refine stop_b ?_)); first
    | with_reducible first | exact ⟨⟩ | (refine gB ?_; intros) | refine gT ?_ ?_
    | refine gs ?_
    | refine sx ?_))
              rename_i tW zf nf2 kf2 sf2 qf2
              have hnW : ¬ tW = tB := by have h1 := (ke2.2.1 ze ke2.2.2.1).lt; have h2 := (show ze.heap.size ≤ tW from FR); omega
              have kf9 := ke2.2.1 zf FR
              have xef : Ext ze zf := FR
              have SV5 : Hid (Sev (fun i => [wW.heap.size, u0.heap.size, u1.heap.size, u2.heap.size, u3.heap.size, u4.heap.size, u5.heap.size, u6.heap.size].getD i 0) (fun i => [f0, f1, f2, f3, f4, f5, f6].getD i 0) (fun i => [vv0, vv1, vv2, vv3, vv4, .slice (some ⟨g5, 0, none⟩) 4 cp5, vv6].getD i (.bool false)) (fun i => ([[0, 2, 2, 2, 2, 2, 2, 2], [0, 2, 2, 2, 2, 2, 2, 2], [0, 2, 2, 2, 2, 2, 2, 2], [0, 2, 2, 2, 2, 2, 2, 0], [0, 2, 2, 2, 2, 2, 2, 2], [0, 2, 2, 2, 2, 2, 2, 2], [0, 2, 2, 2, 2, 2, 2, 2]].getD i ([] : List Int)).map intV) (fun i => [[-1, -1, -1, -1], [-1, -1, -1, -1], [-1, -1, -1, -1], [-1, -1, -1, -1], [-1, -1, -1, -1], [-2, -1, -1, -1], [-1, -1, -1, -1]].getD i ([] : List Int)) zf) := SV4.out.ext xef
              have cg3 : Cg tB zf zf := Chg.refl' _ _
              have hqW : wV.heap.size ≤ tW := FR
              refine st_one (i := 48) KR (by simp) rfl fun zg ng2 kg2 sg2 => ?_
              simp only [List.set_cons_succ, List.set_cons_zero] at kg2
              have cgh5 : Cg tB zf zg := FR
              have SV6 : Hid (Sev (fun i => [wW.heap.size, u0.heap.size, u1.heap.size, u2.heap.size, u3.heap.size, u4.heap.size, u5.heap.size, u6.heap.size].getD i 0) (fun i => [f0, f1, f2, f3, f4, f5, f6].getD i 0) (fun i => [vv0, vv1, vv2, vv3, vv4, .slice (some ⟨g5, 0, none⟩) 4 cp5, vv6].getD i (.bool false)) (fun i => ([[0, 2, 2, 2, 2, 2, 2, 2], [0, 2, 2, 2, 2, 2, 2, 2], [0, 2, 2, 2, 2, 2, 2, 2], [0, 2, 2, 2, 2, 2, 2, 0], [0, 2, 2, 2, 2, 2, 2, 2], [0, 2, 2, 2, 2, 2, 2, 2], [0, 2, 2, 2, 2, 2, 2, 2]].getD i ([] : List Int)).map intV) (fun i => [[-1, -1, -1, -1], [-1, -1, -1, -1], [-1, -1, -1, -1], [-1, -1, -1, -1], [-1, -1, -1, -1], [-2, -1, -1, -1], [-1, -1, -1, -1]].getD i ([] : List Int)) zg) := SV5.out.fr kf9 cgh5
              have KW : Blk zg tW 79 [.int .u8 2, .int .i64 2, .int .i64 0, .int .i64 1] := kf2.2.1 zg FR
              have KB := kg2.2.1 zg kg2.2.2.1
              have hxVg : Ext wV zg := FR
              have I7 : Hid (KnC c0 c1 c2 c5 u p1 p4 bh bp e0 e1 e2 e3 e4 e5 e6 eb ee ew zg) := IV.out.ext hxVg
              have hxwg : Ext w zg := hxwV.trans hxVg
              clear SV4 SV5 kf9 xef cg3 cgh5 kg2 sg2 ke2 re2 kf2 sf2 qf2 IV hxwV hxVg rV sVa hxVa ce2 se2 sd2 sc2 sb2 na2 nb2 nc2 nd2 ne2 nf2 hn1 hn2 hn3 hn4 hqV hqf hqg hqW hnW rW
              have rg := Ext.refl zg
              (repeat' ((fail_if_success (with_reducible first | refine stop_h ?_ | refine stop_c ?_ | refine stop_s ?_ | refine stop_i ?_ | refine stop_l ?_ | refine stop_m ?_ | refine stop_o ?_ | refine stop_n ?_ | refine stop_e ?_ | refine stop_b ?_)); first
    | with_reducible first | exact ⟨⟩ | (refine gB ?_; intros) | refine gT ?_ ?_
    | refine gs ?_
    | refine sx ?_))
              refine loop_g 7 (fun g0 k g w' => g 33 = .int .i64 (k : Int) ∧ (g 1 = g0 1 ∧ g 2 = g0 2 ∧ g 32 = g0 32) ∧ Hid (Ext zg w')) KR ?_ ?_ ?_
              · exact ⟨rfl, ⟨rfl, rfl, rfl⟩, rg⟩
              · rintro k m g3 w3 hk3 hlt n3 ⟨hi3, hf3, hp3⟩
                simp (maxDischargeDepth := 3) only [U, ↓reduceIte, Nat.reduceEqDiff, *] at hf3
                have hx3 : Ext zg w3 := hp3.out
                have hxw3 : Ext w w3 := hxwg.trans hx3
                have s3 := hxw3.st
                have r3 := Ext.refl w3
                have I3 : Hid (KnC c0 c1 c2 c5 u p1 p4 bh bp e0 e1 e2 e3 e4 e5 e6 eb ee ew w3) := I7.out.ext hx3
                have SV3 : Hid (Sev (fun i => [wW.heap.size, u0.heap.size, u1.heap.size, u2.heap.size, u3.heap.size, u4.heap.size, u5.heap.size, u6.heap.size].getD i 0) (fun i => [f0, f1, f2, f3, f4, f5, f6].getD i 0) (fun i => [vv0, vv1, vv2, vv3, vv4, .slice (some ⟨g5, 0, none⟩) 4 cp5, vv6].getD i (.bool false)) (fun i => ([[0, 2, 2, 2, 2, 2, 2, 2], [0, 2, 2, 2, 2, 2, 2, 2], [0, 2, 2, 2, 2, 2, 2, 2], [0, 2, 2, 2, 2, 2, 2, 0], [0, 2, 2, 2, 2, 2, 2, 2], [0, 2, 2, 2, 2, 2, 2, 2], [0, 2, 2, 2, 2, 2, 2, 2]].getD i ([] : List Int)).map intV) (fun i => [[-1, -1, -1, -1], [-1, -1, -1, -1], [-1, -1, -1, -1], [-1, -1, -1, -1], [-1, -1, -1, -1], [-2, -1, -1, -1], [-1, -1, -1, -1]].getD i ([] : List Int)) w3) := SV6.out.ext hx3
                have kh := I3.out.kh.bk
                have kp := I3.out.kp.bk
                have kb := (KB.ext hx3).bk
                have kw3 := KW.ext hx3
                have hw : IntKind.i64.wrap ((k : Int) + 1) = ((k + 1 : Nat) : Int) := by rw [wrap_i64_id] <;> omega
                clear hp3 KB KW SV6 I7 hxwg hxw3 rg
                rcases (by omega : k = 0 ∨ k = 1 ∨ k = 2 ∨ k = 3 ∨ k = 4 ∨ k = 5 ∨ k = 6) with rfl | rfl | rfl | rfl | rfl | rfl | rfl
                · have hi3' : g3 33 = .int .i64 0 := hi3
                  have ht : Int.toNat 0 = 0 := rfl
                  have h7 : (0 : Int) < ((7 : Nat) : Int) := by decide
                  have hT : ∀ w', Ext w3 w' → TermsT w' w'.heap.size ⟨.slice none 0 0, .slice none 0 0, .slice none 0 0, .slice (some ⟨f0, 0, none⟩) 8 8, vv0⟩ (badD 0) := fun w' hx1 => (SV3.out.ext hx1).terms (i := 0) (tk := [0, 2, 2, 2, 2, 2, 2, 2]) (by decide) rfl rfl rfl rfl ⟨rfl, rfl, rfl, rfl⟩
                  have hV : Hid (∀ w', Ext w3 w' → Ret Tryz.prog 20 #[.agg #[.slice (some ⟨c0, 0, none⟩) 1 1, .slice (some ⟨c1, 0, none⟩) 1 1, .slice (some ⟨c2, 0, none⟩) 1 1, .slice (some ⟨c5, 0, none⟩) 2 2, .int .i64 1, .slice none 0 0, u], .agg #[.slice (some ⟨p1, 0, none⟩) 4 4, .slice (some ⟨p4, 0, none⟩) 4 4], .agg #[.slice none 0 0, .slice none 0 0, .int .i64 17, .slice none 0 0, .slice (some ⟨f0, 0, none⟩) 8 8, vv0, .int .i64 0, .int .i64 100]] w' (.bool false)) := fun w' hx' => two_valid (q := ⟨.slice none 0 0, .slice none 0 0, .slice none 0 0, .slice (some ⟨f0, 0, none⟩) 8 8, vv0⟩) (x := badD 0) (I3.out.h.ext hx') (I3.out.p.ext hx') (hT w' hx') kn_bad0
                  clear hi3 hT kw3 SV3 I3
                  (repeat' ((fail_if_success (with_reducible first | refine stop_h ?_ | refine stop_c ?_ | refine stop_s ?_ | refine stop_i ?_ | refine stop_l ?_ | refine stop_m ?_ | refine stop_o ?_ | refine stop_n ?_ | refine stop_e ?_ | refine stop_b ?_)); first
    | ((with_reducible refine wpd_at 42 ?_); refine wpd_tail 6 KR KR KR ?_)
    | with_reducible first | exact ⟨⟩ | (refine gB ?_; intros) | refine gT ?_ ?_
    | refine gs ?_
    | refine sx ?_))
                  rename_i wt nt st
                  have hxt : Ext w3 wt := FR
                  refine ret_k (hV.out wt hxt) fun wq nq sq => ?_
                  have hxq : Hid (Ext zg wq) := hx3.trans (show Ext w3 wq from FR)
                  clear hV
                  (repeat' ((fail_if_success (with_reducible first | refine stop_h ?_ | refine stop_c ?_ | refine stop_s ?_ | refine stop_i ?_ | refine stop_l ?_ | refine stop_m ?_ | refine stop_o ?_ | refine stop_n ?_ | refine stop_e ?_ | refine stop_b ?_)); first
    | with_reducible first | exact ⟨⟩ | (refine gB ?_; intros) | refine gT ?_ ?_
    | refine gs ?_
    | refine sx ?_))
                  refine next_g hk3 hlt ?_
                  exact ⟨rfl, ⟨hf3.1, hf3.2.1, hf3.2.2⟩, hxq⟩
                · have hi3' : g3 33 = .int .i64 1 := hi3
                  have ht : Int.toNat 1 = 1 := rfl
                  have h7 : (1 : Int) < ((7 : Nat) : Int) := by decide
                  have hT : ∀ w', Ext w3 w' → TermsT w' w'.heap.size ⟨.slice none 0 0, .slice none 0 0, .slice none 0 0, .slice (some ⟨f1, 0, none⟩) 8 8, vv1⟩ (badD 1) := fun w' hx1 => (SV3.out.ext hx1).terms (i := 1) (tk := [0, 2, 2, 2, 2, 2, 2, 2]) (by decide) rfl rfl rfl rfl ⟨rfl, rfl, rfl, rfl⟩
                  have hV : Hid (∀ w', Ext w3 w' → Ret Tryz.prog 20 #[.agg #[.slice (some ⟨c0, 0, none⟩) 1 1, .slice (some ⟨c1, 0, none⟩) 1 1, .slice (some ⟨c2, 0, none⟩) 1 1, .slice (some ⟨c5, 0, none⟩) 2 2, .int .i64 1, .slice none 0 0, u], .agg #[.slice (some ⟨p1, 0, none⟩) 4 4, .slice (some ⟨p4, 0, none⟩) 4 4], .agg #[.slice none 0 0, .slice none 0 0, .int .i64 (-1), .slice none 0 0, .slice (some ⟨f1, 0, none⟩) 8 8, vv1, .int .i64 0, .int .i64 100]] w' (.bool false)) := fun w' hx' => two_valid (q := ⟨.slice none 0 0, .slice none 0 0, .slice none 0 0, .slice (some ⟨f1, 0, none⟩) 8 8, vv1⟩) (x := badD 1) (I3.out.h.ext hx') (I3.out.p.ext hx') (hT w' hx') kn_bad1
                  clear hi3 hT kw3 SV3 I3
                  (repeat' ((fail_if_success (with_reducible first | refine stop_h ?_ | refine stop_c ?_ | refine stop_s ?_ | refine stop_i ?_ | refine stop_l ?_ | refine stop_m ?_ | refine stop_o ?_ | refine stop_n ?_ | refine stop_e ?_ | refine stop_b ?_)); first
    | ((with_reducible refine wpd_at 42 ?_); refine wpd_tail 6 KR KR KR ?_)
    | with_reducible first | exact ⟨⟩ | (refine gB ?_; intros) | refine gT ?_ ?_
    | refine gs ?_
    | refine sx ?_))
                  rename_i wt nt st
                  have hxt : Ext w3 wt := FR
                  refine ret_k (hV.out wt hxt) fun wq nq sq => ?_
                  have hxq : Hid (Ext zg wq) := hx3.trans (show Ext w3 wq from FR)
                  clear hV
                  (repeat' ((fail_if_success (with_reducible first | refine stop_h ?_ | refine stop_c ?_ | refine stop_s ?_ | refine stop_i ?_ | refine stop_l ?_ | refine stop_m ?_ | refine stop_o ?_ | refine stop_n ?_ | refine stop_e ?_ | refine stop_b ?_)); first
    | with_reducible first | exact ⟨⟩ | (refine gB ?_; intros) | refine gT ?_ ?_
    | refine gs ?_
    | refine sx ?_))
                  refine next_g hk3 hlt ?_
                  exact ⟨rfl, ⟨hf3.1, hf3.2.1, hf3.2.2⟩, hxq⟩
                · have hi3' : g3 33 = .int .i64 2 := hi3
                  have ht : Int.toNat 2 = 2 := rfl
                  have h7 : (2 : Int) < ((7 : Nat) : Int) := by decide
                  have hT : ∀ w', Ext w3 w' → TermsT w' w'.heap.size ⟨.slice none 0 0, .slice none 0 0, .slice none 0 0, .slice (some ⟨f2, 0, none⟩) 8 8, vv2⟩ (badD 2) := fun w' hx1 => (SV3.out.ext hx1).terms (i := 2) (tk := [0, 2, 2, 2, 2, 2, 2, 2]) (by decide) rfl rfl rfl rfl ⟨rfl, rfl, rfl, rfl⟩
                  have hV : Hid (∀ w', Ext w3 w' → Ret Tryz.prog 20 #[.agg #[.slice (some ⟨c0, 0, none⟩) 1 1, .slice (some ⟨c1, 0, none⟩) 1 1, .slice (some ⟨c2, 0, none⟩) 1 1, .slice (some ⟨c5, 0, none⟩) 2 2, .int .i64 1, .slice none 0 0, u], .agg #[.slice (some ⟨p1, 0, none⟩) 4 4, .slice (some ⟨p4, 0, none⟩) 4 4], .agg #[.slice none 0 0, .slice none 0 0, .int .i64 0, .slice none 0 0, .slice (some ⟨f2, 0, none⟩) 8 8, vv2, .int .i64 101, .int .i64 100]] w' (.bool false)) := fun w' hx' => two_valid (q := ⟨.slice none 0 0, .slice none 0 0, .slice none 0 0, .slice (some ⟨f2, 0, none⟩) 8 8, vv2⟩) (x := badD 2) (I3.out.h.ext hx') (I3.out.p.ext hx') (hT w' hx') kn_bad2
                  clear hi3 hT kw3 SV3 I3
                  (repeat' ((fail_if_success (with_reducible first | refine stop_h ?_ | refine stop_c ?_ | refine stop_s ?_ | refine stop_i ?_ | refine stop_l ?_ | refine stop_m ?_ | refine stop_o ?_ | refine stop_n ?_ | refine stop_e ?_ | refine stop_b ?_)); first
    | ((with_reducible refine wpd_at 42 ?_); refine wpd_tail 6 KR KR KR ?_)
    | with_reducible first | exact ⟨⟩ | (refine gB ?_; intros) | refine gT ?_ ?_
    | refine gs ?_
    | refine sx ?_))
                  rename_i wt nt st
                  have hxt : Ext w3 wt := FR
                  refine ret_k (hV.out wt hxt) fun wq nq sq => ?_
                  have hxq : Hid (Ext zg wq) := hx3.trans (show Ext w3 wq from FR)
                  clear hV
                  (repeat' ((fail_if_success (with_reducible first | refine stop_h ?_ | refine stop_c ?_ | refine stop_s ?_ | refine stop_i ?_ | refine stop_l ?_ | refine stop_m ?_ | refine stop_o ?_ | refine stop_n ?_ | refine stop_e ?_ | refine stop_b ?_)); first
    | with_reducible first | exact ⟨⟩ | (refine gB ?_; intros) | refine gT ?_ ?_
    | refine gs ?_
    | refine sx ?_))
                  refine next_g hk3 hlt ?_
                  exact ⟨rfl, ⟨hf3.1, hf3.2.1, hf3.2.2⟩, hxq⟩
                · have hi3' : g3 33 = .int .i64 3 := hi3
                  have ht : Int.toNat 3 = 3 := rfl
                  have h7 : (3 : Int) < ((7 : Nat) : Int) := by decide
                  have hT : ∀ w', Ext w3 w' → TermsT w' w'.heap.size ⟨.slice none 0 0, .slice none 0 0, .slice none 0 0, .slice (some ⟨f3, 0, none⟩) 8 8, vv3⟩ (badD 3) := fun w' hx1 => (SV3.out.ext hx1).terms (i := 3) (tk := [0, 2, 2, 2, 2, 2, 2, 0]) (by decide) rfl rfl rfl rfl ⟨rfl, rfl, rfl, rfl⟩
                  have hV : Hid (∀ w', Ext w3 w' → Ret Tryz.prog 20 #[.agg #[.slice (some ⟨c0, 0, none⟩) 1 1, .slice (some ⟨c1, 0, none⟩) 1 1, .slice (some ⟨c2, 0, none⟩) 1 1, .slice (some ⟨c5, 0, none⟩) 2 2, .int .i64 1, .slice none 0 0, u], .agg #[.slice (some ⟨p1, 0, none⟩) 4 4, .slice (some ⟨p4, 0, none⟩) 4 4], .agg #[.slice none 0 0, .slice none 0 0, .int .i64 0, .slice none 0 0, .slice (some ⟨f3, 0, none⟩) 8 8, vv3, .int .i64 0, .int .i64 100]] w' (.bool false)) := fun w' hx' => two_valid (q := ⟨.slice none 0 0, .slice none 0 0, .slice none 0 0, .slice (some ⟨f3, 0, none⟩) 8 8, vv3⟩) (x := badD 3) (I3.out.h.ext hx') (I3.out.p.ext hx') (hT w' hx') kn_bad3
                  clear hi3 hT kw3 SV3 I3
                  (repeat' ((fail_if_success (with_reducible first | refine stop_h ?_ | refine stop_c ?_ | refine stop_s ?_ | refine stop_i ?_ | refine stop_l ?_ | refine stop_m ?_ | refine stop_o ?_ | refine stop_n ?_ | refine stop_e ?_ | refine stop_b ?_)); first
    | ((with_reducible refine wpd_at 42 ?_); refine wpd_tail 6 KR KR KR ?_)
    | with_reducible first | exact ⟨⟩ | (refine gB ?_; intros) | refine gT ?_ ?_
    | refine gs ?_
    | refine sx ?_))
                  rename_i wt nt st
                  have hxt : Ext w3 wt := FR
                  refine ret_k (hV.out wt hxt) fun wq nq sq => ?_
                  have hxq : Hid (Ext zg wq) := hx3.trans (show Ext w3 wq from FR)
                  clear hV
                  (repeat' ((fail_if_success (with_reducible first | refine stop_h ?_ | refine stop_c ?_ | refine stop_s ?_ | refine stop_i ?_ | refine stop_l ?_ | refine stop_m ?_ | refine stop_o ?_ | refine stop_n ?_ | refine stop_e ?_ | refine stop_b ?_)); first
    | with_reducible first | exact ⟨⟩ | (refine gB ?_; intros) | refine gT ?_ ?_
    | refine gs ?_
    | refine sx ?_))
                  refine next_g hk3 hlt ?_
                  exact ⟨rfl, ⟨hf3.1, hf3.2.1, hf3.2.2⟩, hxq⟩
                · have hi3' : g3 33 = .int .i64 4 := hi3
                  have ht : Int.toNat 4 = 4 := rfl
                  have h7 : (4 : Int) < ((7 : Nat) : Int) := by decide
                  have hT : ∀ w', Ext w3 w' → TermsT w' w'.heap.size ⟨.slice none 0 0, .slice none 0 0, .slice none 0 0, .slice (some ⟨f4, 0, none⟩) 7 8, vv4⟩ (badD 4) := fun w' hx1 => (SV3.out.ext hx1).terms7 (i := 4) (tk := [0, 2, 2, 2, 2, 2, 2, 2]) (by decide) rfl rfl rfl rfl ⟨rfl, rfl, rfl, rfl⟩
                  have hV : Hid (∀ w', Ext w3 w' → Ret Tryz.prog 20 #[.agg #[.slice (some ⟨c0, 0, none⟩) 1 1, .slice (some ⟨c1, 0, none⟩) 1 1, .slice (some ⟨c2, 0, none⟩) 1 1, .slice (some ⟨c5, 0, none⟩) 2 2, .int .i64 1, .slice none 0 0, u], .agg #[.slice (some ⟨p1, 0, none⟩) 4 4, .slice (some ⟨p4, 0, none⟩) 4 4], .agg #[.slice none 0 0, .slice none 0 0, .int .i64 0, .slice none 0 0, .slice (some ⟨f4, 0, none⟩) 7 8, vv4, .int .i64 0, .int .i64 100]] w' (.bool false)) := fun w' hx' => two_valid (q := ⟨.slice none 0 0, .slice none 0 0, .slice none 0 0, .slice (some ⟨f4, 0, none⟩) 7 8, vv4⟩) (x := badD 4) (I3.out.h.ext hx') (I3.out.p.ext hx') (hT w' hx') kn_bad4
                  clear hi3 hT kw3 SV3 I3
                  (repeat' ((fail_if_success (with_reducible first | refine stop_h ?_ | refine stop_c ?_ | refine stop_s ?_ | refine stop_i ?_ | refine stop_l ?_ | refine stop_m ?_ | refine stop_o ?_ | refine stop_n ?_ | refine stop_e ?_ | refine stop_b ?_)); first
    | ((with_reducible refine wpd_at 42 ?_); refine wpd_tail 6 KR KR KR ?_)
    | with_reducible first | exact ⟨⟩ | (refine gB ?_; intros) | refine gT ?_ ?_
    | refine gs ?_
    | refine sx ?_))
                  rename_i wt nt st
                  have hxt : Ext w3 wt := FR
                  refine ret_k (hV.out wt hxt) fun wq nq sq => ?_
                  have hxq : Hid (Ext zg wq) := hx3.trans (show Ext w3 wq from FR)
                  clear hV
                  (repeat' ((fail_if_success (with_reducible first | refine stop_h ?_ | refine stop_c ?_ | refine stop_s ?_ | refine stop_i ?_ | refine stop_l ?_ | refine stop_m ?_ | refine stop_o ?_ | refine stop_n ?_ | refine stop_e ?_ | refine stop_b ?_)); first
    | with_reducible first | exact ⟨⟩ | (refine gB ?_; intros) | refine gT ?_ ?_
    | refine gs ?_
    | refine sx ?_))
                  refine next_g hk3 hlt ?_
                  exact ⟨rfl, ⟨hf3.1, hf3.2.1, hf3.2.2⟩, hxq⟩
                · have hi3' : g3 33 = .int .i64 5 := hi3
                  have ht : Int.toNat 5 = 5 := rfl
                  have h7 : (5 : Int) < ((7 : Nat) : Int) := by decide
                  have hT : ∀ w', Ext w3 w' → TermsT w' w'.heap.size ⟨.slice none 0 0, .slice none 0 0, .slice none 0 0, .slice (some ⟨f5, 0, none⟩) 8 8, .slice (some ⟨g5, 0, none⟩) 4 cp5⟩ (badD 5) := fun w' hx1 => (SV3.out.ext hx1).terms (i := 5) (tk := [0, 2, 2, 2, 2, 2, 2, 2]) (by decide) rfl rfl rfl rfl ⟨rfl, rfl, rfl, rfl⟩
                  have hV : Hid (∀ w', Ext w3 w' → Ret Tryz.prog 20 #[.agg #[.slice (some ⟨c0, 0, none⟩) 1 1, .slice (some ⟨c1, 0, none⟩) 1 1, .slice (some ⟨c2, 0, none⟩) 1 1, .slice (some ⟨c5, 0, none⟩) 2 2, .int .i64 1, .slice none 0 0, u], .agg #[.slice (some ⟨p1, 0, none⟩) 4 4, .slice (some ⟨p4, 0, none⟩) 4 4], .agg #[.slice none 0 0, .slice none 0 0, .int .i64 0, .slice none 0 0, .slice (some ⟨f5, 0, none⟩) 8 8, .slice (some ⟨g5, 0, none⟩) 4 cp5, .int .i64 0, .int .i64 100]] w' (.bool false)) := fun w' hx' => two_valid (q := ⟨.slice none 0 0, .slice none 0 0, .slice none 0 0, .slice (some ⟨f5, 0, none⟩) 8 8, .slice (some ⟨g5, 0, none⟩) 4 cp5⟩) (x := badD 5) (I3.out.h.ext hx') (I3.out.p.ext hx') (hT w' hx') kn_bad5
                  clear hi3 hT kw3 SV3 I3
                  (repeat' ((fail_if_success (with_reducible first | refine stop_h ?_ | refine stop_c ?_ | refine stop_s ?_ | refine stop_i ?_ | refine stop_l ?_ | refine stop_m ?_ | refine stop_o ?_ | refine stop_n ?_ | refine stop_e ?_ | refine stop_b ?_)); first
    | ((with_reducible refine wpd_at 42 ?_); refine wpd_tail 6 KR KR KR ?_)
    | with_reducible first | exact ⟨⟩ | (refine gB ?_; intros) | refine gT ?_ ?_
    | refine gs ?_
    | refine sx ?_))
                  rename_i wt nt st
                  have hxt : Ext w3 wt := FR
                  refine ret_k (hV.out wt hxt) fun wq nq sq => ?_
                  have hxq : Hid (Ext zg wq) := hx3.trans (show Ext w3 wq from FR)
                  clear hV
                  (repeat' ((fail_if_success (with_reducible first | refine stop_h ?_ | refine stop_c ?_ | refine stop_s ?_ | refine stop_i ?_ | refine stop_l ?_ | refine stop_m ?_ | refine stop_o ?_ | refine stop_n ?_ | refine stop_e ?_ | refine stop_b ?_)); first
    | with_reducible first | exact ⟨⟩ | (refine gB ?_; intros) | refine gT ?_ ?_
    | refine gs ?_
    | refine sx ?_))
                  refine next_g hk3 hlt ?_
                  exact ⟨rfl, ⟨hf3.1, hf3.2.1, hf3.2.2⟩, hxq⟩
                · have hi3' : g3 33 = .int .i64 6 := hi3
                  have ht : Int.toNat 6 = 6 := rfl
                  have h7 : (6 : Int) < ((7 : Nat) : Int) := by decide
                  have hT : ∀ w', Ext w3 w' → TermsT w' w'.heap.size ⟨.slice (some ⟨tW, 0, none⟩) 1 1, .slice none 0 0, .slice none 0 0, .slice (some ⟨f6, 0, none⟩) 8 8, vv6⟩ (badD 6) := fun w' hx1 => (SV3.out.ext hx1).terms6 (i := 6) (tk := [0, 2, 2, 2, 2, 2, 2, 2]) (by decide) (kw3.ext hx1) rfl rfl rfl rfl ⟨rfl, rfl, rfl, rfl⟩
                  have hV : Hid (∀ w', Ext w3 w' → Ret Tryz.prog 20 #[.agg #[.slice (some ⟨c0, 0, none⟩) 1 1, .slice (some ⟨c1, 0, none⟩) 1 1, .slice (some ⟨c2, 0, none⟩) 1 1, .slice (some ⟨c5, 0, none⟩) 2 2, .int .i64 1, .slice none 0 0, u], .agg #[.slice (some ⟨p1, 0, none⟩) 4 4, .slice (some ⟨p4, 0, none⟩) 4 4], .agg #[.slice (some ⟨tW, 0, none⟩) 1 1, .slice none 0 0, .int .i64 0, .slice none 0 0, .slice (some ⟨f6, 0, none⟩) 8 8, vv6, .int .i64 0, .int .i64 100]] w' (.bool false)) := fun w' hx' => two_valid (q := ⟨.slice (some ⟨tW, 0, none⟩) 1 1, .slice none 0 0, .slice none 0 0, .slice (some ⟨f6, 0, none⟩) 8 8, vv6⟩) (x := badD 6) (I3.out.h.ext hx') (I3.out.p.ext hx') (hT w' hx') kn_bad6
                  clear hi3 hT kw3 SV3 I3
                  (repeat' ((fail_if_success (with_reducible first | refine stop_h ?_ | refine stop_c ?_ | refine stop_s ?_ | refine stop_i ?_ | refine stop_l ?_ | refine stop_m ?_ | refine stop_o ?_ | refine stop_n ?_ | refine stop_e ?_ | refine stop_b ?_)); first
    | ((with_reducible refine wpd_at 42 ?_); refine wpd_tail 6 KR KR KR ?_)
    | with_reducible first | exact ⟨⟩ | (refine gB ?_; intros) | refine gT ?_ ?_
    | refine gs ?_
    | refine sx ?_))
                  rename_i wt nt st
                  have hxt : Ext w3 wt := FR
                  refine ret_k (hV.out wt hxt) fun wq nq sq => ?_
                  have hxq : Hid (Ext zg wq) := hx3.trans (show Ext w3 wq from FR)
                  clear hV
                  (repeat' ((fail_if_success (with_reducible first | refine stop_h ?_ | refine stop_c ?_ | refine stop_s ?_ | refine stop_i ?_ | refine stop_l ?_ | refine stop_m ?_ | refine stop_o ?_ | refine stop_n ?_ | refine stop_e ?_ | refine stop_b ?_)); first
    | with_reducible first | exact ⟨⟩ | (refine gB ?_; intros) | refine gT ?_ ?_
    | refine gs ?_
    | refine sx ?_))
                  refine next_g hk3 hlt ?_
                  exact ⟨rfl, ⟨hf3.1, hf3.2.1, hf3.2.2⟩, hxq⟩
              · rintro g3 w3 n30 ⟨hi3, hf3, hp3⟩
                simp (maxDischargeDepth := 3) only [U, ↓reduceIte, Nat.reduceEqDiff, *] at hf3
                have hx3 : Ext zg w3 := hp3.out
                have hxw3 : Ext w w3 := hxwg.trans hx3
                have s3 := hxw3.st
                have r3 := Ext.refl w3
                have I3 : Hid (KnC c0 c1 c2 c5 u p1 p4 bh bp e0 e1 e2 e3 e4 e5 e6 eb ee ew w3) := I7.out.ext hx3
                have kh := I3.out.kh.bk
                have kp := I3.out.kp.bk
                clear hp3 KB KW SV6 I7 hxwg rg hx3
                (repeat' ((fail_if_success (with_reducible first | refine stop_h ?_ | refine stop_c ?_ | refine stop_s ?_ | refine stop_i ?_ | refine stop_l ?_ | refine stop_m ?_ | refine stop_o ?_ | refine stop_n ?_ | refine stop_e ?_ | refine stop_b ?_)); first
    | ((with_reducible refine wpd_at 45 ?_); refine wpd_hold ?_)
    | with_reducible first | exact ⟨⟩ | (refine gB ?_; intros) | refine gT ?_ ?_
    | refine gs ?_
    | refine sx ?_))
                rename_i tE wA nA0 kA sA qA tF wB nB0 kB sB qB lB tG wC nC0 kC sC qC wD nD0 kD sD
                have K1 : Blk wD tE 71 [.int .u8 8, .int .i64 0, .int .i64 0, .int .i64 0] := kA.2.1 wD FR
                have K2 : Blk wD tF 39 [.slice none 0 0] := kB.2.1 wD FR
                have hx3D : Ext w3 wD := FR
                have ID : Hid (KnC c0 c1 c2 c5 u p1 p4 bh bp e0 e1 e2 e3 e4 e5 e6 eb ee ew wD) := I3.out.ext hx3D
                have hE : Hid (EigV wD (.agg #[.slice (some ⟨tE, 0, none⟩) 1 1, .slice (some ⟨tF, 0, none⟩) 1 1])) := ⟨tE, tF, rfl, K1, K2⟩
                have hxwD : Ext w wD := hxw3.trans hx3D
                clear kh kp
                have kh := ID.out.kh.bk
                have kp := ID.out.kp.bk
                have sD' := hxwD.st
                have rD := Ext.refl wD
                clear kA kB kC sA sB sC sD qA qB qC lB K1 K2 hx3D I3 s3 r3 hxw3
                unfold wpdH
                refine wpd_rel 9 (fun iI v w9 => match iI with
                  | 0 => v = .agg #[.slice (some ⟨tE, 0, none⟩) 1 1, .slice (some ⟨tF, 0, none⟩) 1 1]
                  | 1 => TrmV w9 v 1 0
                  | 2 => ∃ b, v = .slice (some ⟨b, 0, none⟩) 1 1 ∧ Blk w9 b 3 [.int .i64 0] ∧ wD.heap.size ≤ b
                  | 3 => BegV w9 v [0] 0
                  | 4 => v = .tuple #[.int .i64 0, .int .i64 0]
                  | 5 => v = .tuple #[.int .i64 0, .int .i64 0]
                  | 6 => v = .int .i64 0
                  | 7 => v = .int .i64 0
                  | 8 => v = .int .i64 0
                  | _ => False) KR KR KR ?_ ?_ ?_
                · intro iI v w1 w2 hR hx9
                  match iI, hR with
                  | 0, h => exact h
                  | 1, h => exact h.ext hx9
                  | 2, ⟨b, e, h1, h2⟩ => exact ⟨b, e, h1.ext hx9, h2⟩
                  | 3, h => exact h.ext hx9
                  | 4, h => exact h
                  | 5, h => exact h
                  | 6, h => exact h
                  | 7, h => exact h
                  | 8, h => exact h
                · intro iI oO hi ho gF w9 hx9 hdep hag
                  have s9 := hx9.st
                  have n9 : Now w9 := trivial
                  have r9 := Ext.refl w9
                  have z9 := hx9.size
                  rcases iI with _|_|_|_|_|_|_|_|_|iI
                  · have e := Option.some.inj ho
                    subst e
                    have a34 := hag.at 34 KR
                    simp only [S5, ↓reduceIte, Nat.reduceEqDiff, initF, *] at a34
                    clear hag hdep ho
                    refine relStep_off rfl ?_
                    (repeat' ((fail_if_success (with_reducible first | refine stop_h ?_ | refine stop_c ?_ | refine stop_s ?_ | refine stop_i ?_ | refine stop_l ?_ | refine stop_m ?_ | refine stop_o ?_ | refine stop_n ?_ | refine stop_e ?_ | refine stop_b ?_)); first
    | with_reducible first | exact ⟨⟩ | (refine gB ?_; intros) | refine gT ?_ ?_
    | refine gs ?_
    | refine sx ?_))
                  · have e := Option.some.inj ho
                    subst e
                    clear hag hdep ho
                    refine relStep_off rfl ?_
                    (repeat' ((fail_if_success (with_reducible first | refine stop_h ?_ | refine stop_c ?_ | refine stop_s ?_ | refine stop_i ?_ | refine stop_l ?_ | refine stop_m ?_ | refine stop_o ?_ | refine stop_n ?_ | refine stop_e ?_ | refine stop_b ?_)); first
    | with_reducible first | exact ⟨⟩ | (refine gB ?_; intros) | refine gT ?_ ?_
    | refine gs ?_
    | refine sx ?_))
                    refine CallsV.mono (law23terms (n := 1) (blast := 0) (by decide)) fun v w10 hh => hh
                  · have e := Option.some.inj ho
                    subst e
                    clear hag hdep ho
                    refine relStep_off rfl ?_
                    (repeat' ((fail_if_success (with_reducible first | refine stop_h ?_ | refine stop_c ?_ | refine stop_s ?_ | refine stop_i ?_ | refine stop_l ?_ | refine stop_m ?_ | refine stop_o ?_ | refine stop_n ?_ | refine stop_e ?_ | refine stop_b ?_)); first
    | with_reducible first | exact ⟨⟩ | (refine gB ?_; intros) | refine gT ?_ ?_
    | refine gs ?_
    | refine sx ?_))
                    first
                      | (rename_i b10 w10 n10 k10 s10 q10; exact ⟨_, rfl, k10.2.1 _ k10.2.2.1, FR⟩)
                      | (rename_i b10 w10 n10 k10 s10 q10 l10; exact ⟨_, rfl, k10.2.1 _ k10.2.2.1, FR⟩)
                  · have e := Option.some.inj ho
                    subst e
                    have d2 : ∃ b, (gF 305) = .slice (some ⟨b, 0, none⟩) 1 1 ∧ Blk w9 b 3 [.int .i64 0] ∧ wD.heap.size ≤ b := hdep ⟨2, .data⟩ (by simp) rfl _ _ rfl rfl
                    obtain ⟨b2, e2, hb2, q2⟩ := d2
                    have k2 := hb2.bk
                    have nw2 := Nw.of q2
                    clear hag hdep ho
                    refine relStep_off rfl ?_
                    (repeat' ((fail_if_success (with_reducible first | refine stop_h ?_ | refine stop_c ?_ | refine stop_s ?_ | refine stop_i ?_ | refine stop_l ?_ | refine stop_m ?_ | refine stop_o ?_ | refine stop_n ?_ | refine stop_e ?_ | refine stop_b ?_)); first
    | with_reducible first | exact ⟨⟩ | (refine gB ?_; intros) | refine gT ?_ ?_
    | refine gs ?_
    | refine sx ?_))
                    exact ⟨b2, rfl, hb2, by decide⟩
                  · have e := Option.some.inj ho
                    subst e
                    have d0 : (gF 303) = .agg #[.slice (some ⟨tE, 0, none⟩) 1 1, .slice (some ⟨tF, 0, none⟩) 1 1] := hdep ⟨0, .data⟩ (by simp) rfl _ _ rfl rfl
                    have d1 : TrmV w9 (gF 304) 1 0 := hdep ⟨1, .data⟩ (by simp) rfl _ _ rfl rfl
                    have d3 : BegV w9 (gF 306) [0] 0 := hdep ⟨3, .data⟩ (by simp) rfl _ _ rfl rfl
                    clear hag hdep ho
                    refine relStep_off rfl ?_
                    (repeat' ((fail_if_success (with_reducible first | refine stop_h ?_ | refine stop_c ?_ | refine stop_s ?_ | refine stop_i ?_ | refine stop_l ?_ | refine stop_m ?_ | refine stop_o ?_ | refine stop_n ?_ | refine stop_e ?_ | refine stop_b ?_)); first
    | with_reducible first | exact ⟨⟩ | (refine gB ?_; intros) | refine gT ?_ ?_
    | refine gs ?_
    | refine sx ?_))
                    refine CallsV.mono (eig_at (hE.out.ext hx9) d1 d3 kn_at) fun v w10 hh => ⟨hh.2, hh.1⟩
                  · have e := Option.some.inj ho
                    subst e
                    have d4 : (gF 307) = .tuple #[.int .i64 0, .int .i64 0] := hdep ⟨4, .data⟩ (by simp) rfl _ _ rfl rfl
                    clear hag hdep ho
                    refine relStep_off rfl ?_
                    (repeat' ((fail_if_success (with_reducible first | refine stop_h ?_ | refine stop_c ?_ | refine stop_s ?_ | refine stop_i ?_ | refine stop_l ?_ | refine stop_m ?_ | refine stop_o ?_ | refine stop_n ?_ | refine stop_e ?_ | refine stop_b ?_)); first
    | with_reducible first | exact ⟨⟩ | (refine gB ?_; intros) | refine gT ?_ ?_
    | refine gs ?_
    | refine sx ?_))
                  · have e := Option.some.inj ho
                    subst e
                    have d5 : (gF 302) = .tuple #[.int .i64 0, .int .i64 0] := hdep ⟨5, .data⟩ (by simp) rfl _ _ rfl rfl
                    clear hag hdep ho
                    refine relStep_off rfl ?_
                    (repeat' ((fail_if_success (with_reducible first | refine stop_h ?_ | refine stop_c ?_ | refine stop_s ?_ | refine stop_i ?_ | refine stop_l ?_ | refine stop_m ?_ | refine stop_o ?_ | refine stop_n ?_ | refine stop_e ?_ | refine stop_b ?_)); first
    | with_reducible first | exact ⟨⟩ | (refine gB ?_; intros) | refine gT ?_ ?_
    | refine gs ?_
    | refine sx ?_))
                  · have e := Option.some.inj ho
                    subst e
                    have d5 : (gF 302) = .tuple #[.int .i64 0, .int .i64 0] := hdep ⟨5, .data⟩ (by simp) rfl _ _ rfl rfl
                    clear hag hdep ho
                    refine relStep_off rfl ?_
                    (repeat' ((fail_if_success (with_reducible first | refine stop_h ?_ | refine stop_c ?_ | refine stop_s ?_ | refine stop_i ?_ | refine stop_l ?_ | refine stop_m ?_ | refine stop_o ?_ | refine stop_n ?_ | refine stop_e ?_ | refine stop_b ?_)); first
    | with_reducible first | exact ⟨⟩ | (refine gB ?_; intros) | refine gT ?_ ?_
    | refine gs ?_
    | refine sx ?_))
                  · have e := Option.some.inj ho
                    subst e
                    have d6 : (gF 308) = .int .i64 0 := hdep ⟨6, .data⟩ (by simp) rfl _ _ rfl rfl
                    clear hag hdep ho
                    refine relStep_off rfl ?_
                    (repeat' ((fail_if_success (with_reducible first | refine stop_h ?_ | refine stop_c ?_ | refine stop_s ?_ | refine stop_i ?_ | refine stop_l ?_ | refine stop_m ?_ | refine stop_o ?_ | refine stop_n ?_ | refine stop_e ?_ | refine stop_b ?_)); first
    | with_reducible first | exact ⟨⟩ | (refine gB ?_; intros) | refine gT ?_ ?_
    | refine gs ?_
    | refine sx ?_))
                  · omega
                · intro g9 w9 hx9 hR hag
                  have s9 := hx9.st
                  have n9 : Now w9 := trivial
                  have r9 := Ext.refl w9
                  have z9 := hx9.size
                  have d7 : (g9 309) = .int .i64 0 := hR 7 _ _ (by decide) rfl rfl
                  have d8 : (g9 35) = .int .i64 0 := hR 8 _ _ (by decide) rfl rfl
                  have a1 := hag.at 1 KR
                  have a2 := hag.at 2 KR
                  have a34 := hag.at 34 KR
                  simp only [S5, ↓reduceIte, Nat.reduceEqDiff, initF, *] at a1 a2 a34
                  clear hag hR
                  simp only [List.drop_succ_cons, List.drop_zero]
                  have hx90 : Ext wD w9 := hx9
                  obtain ⟨wF, hwF⟩ : ∃ wF, wF = w9 := ⟨_, rfl⟩
                  subst hwF
                  have IF : Hid (KnC c0 c1 c2 c5 u p1 p4 bh bp e0 e1 e2 e3 e4 e5 e6 eb ee ew wF) := ID.out.ext hx90
                  have hF : Hid (EigV wF (.agg #[.slice (some ⟨tE, 0, none⟩) 1 1, .slice (some ⟨tF, 0, none⟩) 1 1])) := hE.out.ext hx90
                  have kq := (kD.2.1 wF FR).bk
                  have hxwF : Ext w wF := hxwD.trans hx90
                  clear kh kp kD
                  have kh := IF.out.kh.bk
                  have kp := IF.out.kp.bk
                  have sF := hxwF.st
                  have rF := Ext.refl wF
                  have nF0 : Now wF := trivial
                  clear hx90 hx9 s9 r9 z9 ID hE hxwD sD' rD
                  (repeat' ((fail_if_success (with_reducible first | refine stop_h ?_ | refine stop_c ?_ | refine stop_s ?_ | refine stop_i ?_ | refine stop_l ?_ | refine stop_m ?_ | refine stop_o ?_ | refine stop_n ?_ | refine stop_e ?_ | refine stop_b ?_)); first
    | ((with_reducible refine wpd_at 46 ?_); refine wpd_hold ?_)
    | with_reducible first | exact ⟨⟩ | (refine gB ?_; intros) | refine gT ?_ ?_
    | refine gs ?_
    | refine sx ?_))
                  unfold wpdH
                  refine wpd_rel 22 (fun iI v w9 => match iI with
                    | 0 => v = .agg #[.slice (some ⟨c0, 0, none⟩) 1 1, .slice (some ⟨c1, 0, none⟩) 1 1, .slice (some ⟨c2, 0, none⟩) 1 1, .slice (some ⟨c5, 0, none⟩) 2 2, .int .i64 1, .slice none 0 0, u]
                    | 1 => v = .agg #[.slice (some ⟨tE, 0, none⟩) 1 1, .slice (some ⟨tF, 0, none⟩) 1 1]
                    | 2 => TrmV w9 v 1 0
                    | 3 => v = .bool false
                    | 4 => v = .bool true
                    | 5 => v = .bool true
                    | 6 => v = .int .i64 0
                    | 7 => v = .bool true
                    | 8 => v = .bool true
                    | 9 => v = .bool true
                    | 10 => v = .int .i64 0
                    | 11 => v = .bool true
                    | 12 => v = .bool true
                    | 13 => v = .bool true
                    | 14 => v = .agg #[.slice (some ⟨c0, 0, none⟩) 1 1, .slice (some ⟨c1, 0, none⟩) 1 1, .slice (some ⟨c2, 0, none⟩) 1 1, .slice (some ⟨c5, 0, none⟩) 2 2, .int .i64 1, .slice none 0 0, u]
                    | 15 => v = .agg #[.slice (some ⟨p1, 0, none⟩) 4 4, .slice (some ⟨p4, 0, none⟩) 4 4]
                    | 16 => TrmV w9 v 4 16
                    | 17 => v = .bool true
                    | 18 => v = .bool true
                    | 19 => v = .bool true
                    | 20 => v = .bool true
                    | 21 => v = .bool true
                    | _ => False) KR KR KR ?_ ?_ ?_
                  · intro iI v w1 w2 hR hx9
                    match iI, hR with
                    | 0, h => exact h
                    | 1, h => exact h
                    | 2, h => exact h.ext hx9
                    | 3, h => exact h
                    | 4, h => exact h
                    | 5, h => exact h
                    | 6, h => exact h
                    | 7, h => exact h
                    | 8, h => exact h
                    | 9, h => exact h
                    | 10, h => exact h
                    | 11, h => exact h
                    | 12, h => exact h
                    | 13, h => exact h
                    | 14, h => exact h
                    | 15, h => exact h
                    | 16, h => exact h.ext hx9
                    | 17, h => exact h
                    | 18, h => exact h
                    | 19, h => exact h
                    | 20, h => exact h
                    | 21, h => exact h
                  · intro iI oO hi ho gF w9 hx9 hdep hag
                    have s9 := hx9.st
                    have n9 : Now w9 := trivial
                    have r9 := Ext.refl w9
                    have z9 := hx9.size
                    rcases iI with _|_|_|_|_|_|_|_|_|_|_|_|_|_|_|_|_|_|_|_|_|_|iI
                    · have e := Option.some.inj ho
                      subst e
                      have a1 := hag.at 1 KR
                      simp only [S5, ↓reduceIte, Nat.reduceEqDiff, initF, *] at a1
                      clear hag hdep ho
                      refine relStep_off rfl ?_
                      (repeat' ((fail_if_success (with_reducible first | refine stop_h ?_ | refine stop_c ?_ | refine stop_s ?_ | refine stop_i ?_ | refine stop_l ?_ | refine stop_m ?_ | refine stop_o ?_ | refine stop_n ?_ | refine stop_e ?_ | refine stop_b ?_)); first
    | with_reducible first | exact ⟨⟩ | (refine gB ?_; intros) | refine gT ?_ ?_
    | refine gs ?_
    | refine sx ?_))
                    · have e := Option.some.inj ho
                      subst e
                      have a34 := hag.at 34 KR
                      simp only [S5, ↓reduceIte, Nat.reduceEqDiff, initF, *] at a34
                      clear hag hdep ho
                      refine relStep_off rfl ?_
                      (repeat' ((fail_if_success (with_reducible first | refine stop_h ?_ | refine stop_c ?_ | refine stop_s ?_ | refine stop_i ?_ | refine stop_l ?_ | refine stop_m ?_ | refine stop_o ?_ | refine stop_n ?_ | refine stop_e ?_ | refine stop_b ?_)); first
    | with_reducible first | exact ⟨⟩ | (refine gB ?_; intros) | refine gT ?_ ?_
    | refine gs ?_
    | refine sx ?_))
                    · have e := Option.some.inj ho
                      subst e
                      clear hag hdep ho
                      refine relStep_off rfl ?_
                      (repeat' ((fail_if_success (with_reducible first | refine stop_h ?_ | refine stop_c ?_ | refine stop_s ?_ | refine stop_i ?_ | refine stop_l ?_ | refine stop_m ?_ | refine stop_o ?_ | refine stop_n ?_ | refine stop_e ?_ | refine stop_b ?_)); first
    | with_reducible first | exact ⟨⟩ | (refine gB ?_; intros) | refine gT ?_ ?_
    | refine gs ?_
    | refine sx ?_))
                      refine CallsV.mono (law23terms (n := 1) (blast := 0) (by decide)) fun v w10 hh => hh
                    · have e := Option.some.inj ho
                      subst e
                      have d0 : (gF 310) = .agg #[.slice (some ⟨c0, 0, none⟩) 1 1, .slice (some ⟨c1, 0, none⟩) 1 1, .slice (some ⟨c2, 0, none⟩) 1 1, .slice (some ⟨c5, 0, none⟩) 2 2, .int .i64 1, .slice none 0 0, u] := hdep ⟨0, .data⟩ (by simp) rfl _ _ rfl rfl
                      have d1 : (gF 311) = .agg #[.slice (some ⟨tE, 0, none⟩) 1 1, .slice (some ⟨tF, 0, none⟩) 1 1] := hdep ⟨1, .data⟩ (by simp) rfl _ _ rfl rfl
                      have d2 : TrmV w9 (gF 312) 1 0 := hdep ⟨2, .data⟩ (by simp) rfl _ _ rfl rfl
                      clear hag hdep ho
                      refine relStep_off rfl ?_
                      (repeat' ((fail_if_success (with_reducible first | refine stop_h ?_ | refine stop_c ?_ | refine stop_s ?_ | refine stop_i ?_ | refine stop_l ?_ | refine stop_m ?_ | refine stop_o ?_ | refine stop_n ?_ | refine stop_e ?_ | refine stop_b ?_)); first
    | with_reducible first | exact ⟨⟩ | (refine gB ?_; intros) | refine gT ?_ ?_
    | refine gs ?_
    | refine sx ?_))
                      refine CallsV.mono (eig_valid (IF.out.h.ext hx9) (hF.out.ext hx9) d2 kn_eight) fun v w10 hh => ⟨hh.2, hh.1⟩
                    · have e := Option.some.inj ho
                      subst e
                      have d3 : (gF 313) = .bool false := hdep ⟨3, .data⟩ (by simp) rfl _ _ rfl rfl
                      clear hag hdep ho
                      refine relStep_off rfl ?_
                      (repeat' ((fail_if_success (with_reducible first | refine stop_h ?_ | refine stop_c ?_ | refine stop_s ?_ | refine stop_i ?_ | refine stop_l ?_ | refine stop_m ?_ | refine stop_o ?_ | refine stop_n ?_ | refine stop_e ?_ | refine stop_b ?_)); first
    | with_reducible first | exact ⟨⟩ | (refine gB ?_; intros) | refine gT ?_ ?_
    | refine gs ?_
    | refine sx ?_))
                    · have e := Option.some.inj ho
                      subst e
                      have d4 : (gF 314) = .bool true := hdep ⟨4, .data⟩ (by simp) rfl _ _ rfl rfl
                      clear hag hdep ho
                      refine relStep_off rfl ?_
                      (repeat' ((fail_if_success (with_reducible first | refine stop_h ?_ | refine stop_c ?_ | refine stop_s ?_ | refine stop_i ?_ | refine stop_l ?_ | refine stop_m ?_ | refine stop_o ?_ | refine stop_n ?_ | refine stop_e ?_ | refine stop_b ?_)); first
    | with_reducible first | exact ⟨⟩ | (refine gB ?_; intros) | refine gT ?_ ?_
    | refine gs ?_
    | refine sx ?_))
                    · have e := Option.some.inj ho
                      subst e
                      have a35 := hag.at 35 KR
                      simp only [S5, ↓reduceIte, Nat.reduceEqDiff, initF, *] at a35
                      have d5 : (gF 315) = .bool true := hdep ⟨5, .guard⟩ (by simp) rfl _ _ rfl rfl
                      clear hag hdep ho
                      refine relStep_on (j := 5) (want := true) (t := 315) rfl rfl (by rw [d5]; rfl) ?_
                      (repeat' ((fail_if_success (with_reducible first | refine stop_h ?_ | refine stop_c ?_ | refine stop_s ?_ | refine stop_i ?_ | refine stop_l ?_ | refine stop_m ?_ | refine stop_o ?_ | refine stop_n ?_ | refine stop_e ?_ | refine stop_b ?_)); first
    | with_reducible first | exact ⟨⟩ | (refine gB ?_; intros) | refine gT ?_ ?_
    | refine gs ?_
    | refine sx ?_))
                    · have e := Option.some.inj ho
                      subst e
                      have d6 : (gF 316) = .int .i64 0 := hdep ⟨6, .data⟩ (by simp) rfl _ _ rfl rfl
                      have d5 : (gF 315) = .bool true := hdep ⟨5, .guard⟩ (by simp) rfl _ _ rfl rfl
                      clear hag hdep ho
                      refine relStep_on (j := 5) (want := true) (t := 315) rfl rfl (by rw [d5]; rfl) ?_
                      (repeat' ((fail_if_success (with_reducible first | refine stop_h ?_ | refine stop_c ?_ | refine stop_s ?_ | refine stop_i ?_ | refine stop_l ?_ | refine stop_m ?_ | refine stop_o ?_ | refine stop_n ?_ | refine stop_e ?_ | refine stop_b ?_)); first
    | with_reducible first | exact ⟨⟩ | (refine gB ?_; intros) | refine gT ?_ ?_
    | refine gs ?_
    | refine sx ?_))
                    · have e := Option.some.inj ho
                      subst e
                      have d5 : (gF 315) = .bool true := hdep ⟨5, .data⟩ (by simp) rfl _ _ rfl rfl
                      have d7 : (gF 317) = .bool true := hdep ⟨7, .data⟩ (by simp) rfl _ _ rfl rfl
                      clear hag hdep ho
                      refine relStep_off rfl ?_
                      (repeat' ((fail_if_success (with_reducible first | refine stop_h ?_ | refine stop_c ?_ | refine stop_s ?_ | refine stop_i ?_ | refine stop_l ?_ | refine stop_m ?_ | refine stop_o ?_ | refine stop_n ?_ | refine stop_e ?_ | refine stop_b ?_)); first
    | with_reducible first | exact ⟨⟩ | (refine gB ?_; intros) | refine gT ?_ ?_
    | refine gs ?_
    | refine sx ?_))
                    · have e := Option.some.inj ho
                      subst e
                      have d8 : (gF 318) = .bool true := hdep ⟨8, .data⟩ (by simp) rfl _ _ rfl rfl
                      clear hag hdep ho
                      refine relStep_off rfl ?_
                      (repeat' ((fail_if_success (with_reducible first | refine stop_h ?_ | refine stop_c ?_ | refine stop_s ?_ | refine stop_i ?_ | refine stop_l ?_ | refine stop_m ?_ | refine stop_o ?_ | refine stop_n ?_ | refine stop_e ?_ | refine stop_b ?_)); first
    | with_reducible first | exact ⟨⟩ | (refine gB ?_; intros) | refine gT ?_ ?_
    | refine gs ?_
    | refine sx ?_))
                    · have e := Option.some.inj ho
                      subst e
                      have a36 := hag.at 36 KR
                      simp only [S5, ↓reduceIte, Nat.reduceEqDiff, initF, *] at a36
                      have d9 : (gF 319) = .bool true := hdep ⟨9, .guard⟩ (by simp) rfl _ _ rfl rfl
                      clear hag hdep ho
                      refine relStep_on (j := 9) (want := true) (t := 319) rfl rfl (by rw [d9]; rfl) ?_
                      (repeat' ((fail_if_success (with_reducible first | refine stop_h ?_ | refine stop_c ?_ | refine stop_s ?_ | refine stop_i ?_ | refine stop_l ?_ | refine stop_m ?_ | refine stop_o ?_ | refine stop_n ?_ | refine stop_e ?_ | refine stop_b ?_)); first
    | with_reducible first | exact ⟨⟩ | (refine gB ?_; intros) | refine gT ?_ ?_
    | refine gs ?_
    | refine sx ?_))
                    · have e := Option.some.inj ho
                      subst e
                      have d10 : (gF 320) = .int .i64 0 := hdep ⟨10, .data⟩ (by simp) rfl _ _ rfl rfl
                      have d9 : (gF 319) = .bool true := hdep ⟨9, .guard⟩ (by simp) rfl _ _ rfl rfl
                      clear hag hdep ho
                      refine relStep_on (j := 9) (want := true) (t := 319) rfl rfl (by rw [d9]; rfl) ?_
                      (repeat' ((fail_if_success (with_reducible first | refine stop_h ?_ | refine stop_c ?_ | refine stop_s ?_ | refine stop_i ?_ | refine stop_l ?_ | refine stop_m ?_ | refine stop_o ?_ | refine stop_n ?_ | refine stop_e ?_ | refine stop_b ?_)); first
    | with_reducible first | exact ⟨⟩ | (refine gB ?_; intros) | refine gT ?_ ?_
    | refine gs ?_
    | refine sx ?_))
                    · have e := Option.some.inj ho
                      subst e
                      have d9 : (gF 319) = .bool true := hdep ⟨9, .data⟩ (by simp) rfl _ _ rfl rfl
                      have d11 : (gF 321) = .bool true := hdep ⟨11, .data⟩ (by simp) rfl _ _ rfl rfl
                      clear hag hdep ho
                      refine relStep_off rfl ?_
                      (repeat' ((fail_if_success (with_reducible first | refine stop_h ?_ | refine stop_c ?_ | refine stop_s ?_ | refine stop_i ?_ | refine stop_l ?_ | refine stop_m ?_ | refine stop_o ?_ | refine stop_n ?_ | refine stop_e ?_ | refine stop_b ?_)); first
    | with_reducible first | exact ⟨⟩ | (refine gB ?_; intros) | refine gT ?_ ?_
    | refine gs ?_
    | refine sx ?_))
                    · have e := Option.some.inj ho
                      subst e
                      have d12 : (gF 322) = .bool true := hdep ⟨12, .data⟩ (by simp) rfl _ _ rfl rfl
                      clear hag hdep ho
                      refine relStep_off rfl ?_
                      (repeat' ((fail_if_success (with_reducible first | refine stop_h ?_ | refine stop_c ?_ | refine stop_s ?_ | refine stop_i ?_ | refine stop_l ?_ | refine stop_m ?_ | refine stop_o ?_ | refine stop_n ?_ | refine stop_e ?_ | refine stop_b ?_)); first
    | with_reducible first | exact ⟨⟩ | (refine gB ?_; intros) | refine gT ?_ ?_
    | refine gs ?_
    | refine sx ?_))
                    · have e := Option.some.inj ho
                      subst e
                      have a1 := hag.at 1 KR
                      simp only [S5, ↓reduceIte, Nat.reduceEqDiff, initF, *] at a1
                      have d13 : (gF 323) = .bool true := hdep ⟨13, .guard⟩ (by simp) rfl _ _ rfl rfl
                      clear hag hdep ho
                      refine relStep_on (j := 13) (want := true) (t := 323) rfl rfl (by rw [d13]; rfl) ?_
                      (repeat' ((fail_if_success (with_reducible first | refine stop_h ?_ | refine stop_c ?_ | refine stop_s ?_ | refine stop_i ?_ | refine stop_l ?_ | refine stop_m ?_ | refine stop_o ?_ | refine stop_n ?_ | refine stop_e ?_ | refine stop_b ?_)); first
    | with_reducible first | exact ⟨⟩ | (refine gB ?_; intros) | refine gT ?_ ?_
    | refine gs ?_
    | refine sx ?_))
                    · have e := Option.some.inj ho
                      subst e
                      have a2 := hag.at 2 KR
                      simp only [S5, ↓reduceIte, Nat.reduceEqDiff, initF, *] at a2
                      have d13 : (gF 323) = .bool true := hdep ⟨13, .guard⟩ (by simp) rfl _ _ rfl rfl
                      clear hag hdep ho
                      refine relStep_on (j := 13) (want := true) (t := 323) rfl rfl (by rw [d13]; rfl) ?_
                      (repeat' ((fail_if_success (with_reducible first | refine stop_h ?_ | refine stop_c ?_ | refine stop_s ?_ | refine stop_i ?_ | refine stop_l ?_ | refine stop_m ?_ | refine stop_o ?_ | refine stop_n ?_ | refine stop_e ?_ | refine stop_b ?_)); first
    | with_reducible first | exact ⟨⟩ | (refine gB ?_; intros) | refine gT ?_ ?_
    | refine gs ?_
    | refine sx ?_))
                    · have e := Option.some.inj ho
                      subst e
                      have d13 : (gF 323) = .bool true := hdep ⟨13, .guard⟩ (by simp) rfl _ _ rfl rfl
                      clear hag hdep ho
                      refine relStep_on (j := 13) (want := true) (t := 323) rfl rfl (by rw [d13]; rfl) ?_
                      (repeat' ((fail_if_success (with_reducible first | refine stop_h ?_ | refine stop_c ?_ | refine stop_s ?_ | refine stop_i ?_ | refine stop_l ?_ | refine stop_m ?_ | refine stop_o ?_ | refine stop_n ?_ | refine stop_e ?_ | refine stop_b ?_)); first
    | with_reducible first | exact ⟨⟩ | (refine gB ?_; intros) | refine gT ?_ ?_
    | refine gs ?_
    | refine sx ?_))
                      refine CallsV.mono (law23terms (n := 4) (blast := 16) (by decide)) fun v w10 hh => hh
                    · have e := Option.some.inj ho
                      subst e
                      have d14 : (gF 324) = .agg #[.slice (some ⟨c0, 0, none⟩) 1 1, .slice (some ⟨c1, 0, none⟩) 1 1, .slice (some ⟨c2, 0, none⟩) 1 1, .slice (some ⟨c5, 0, none⟩) 2 2, .int .i64 1, .slice none 0 0, u] := hdep ⟨14, .data⟩ (by simp) rfl _ _ rfl rfl
                      have d15 : (gF 325) = .agg #[.slice (some ⟨p1, 0, none⟩) 4 4, .slice (some ⟨p4, 0, none⟩) 4 4] := hdep ⟨15, .data⟩ (by simp) rfl _ _ rfl rfl
                      have d16 : TrmV w9 (gF 326) 4 16 := hdep ⟨16, .data⟩ (by simp) rfl _ _ rfl rfl
                      have d13 : (gF 323) = .bool true := hdep ⟨13, .guard⟩ (by simp) rfl _ _ rfl rfl
                      clear hag hdep ho
                      refine relStep_on (j := 13) (want := true) (t := 323) rfl rfl (by rw [d13]; rfl) ?_
                      (repeat' ((fail_if_success (with_reducible first | refine stop_h ?_ | refine stop_c ?_ | refine stop_s ?_ | refine stop_i ?_ | refine stop_l ?_ | refine stop_m ?_ | refine stop_o ?_ | refine stop_n ?_ | refine stop_e ?_ | refine stop_b ?_)); first
    | with_reducible first | exact ⟨⟩ | (refine gB ?_; intros) | refine gT ?_ ?_
    | refine gs ?_
    | refine sx ?_))
                      refine CallsV.mono (good_valid (IF.out.h.ext hx9) (IF.out.p.ext hx9) d16 kn_good) fun v w10 hh => ⟨hh.2, hh.1⟩
                    · have e := Option.some.inj ho
                      subst e
                      have d13 : (gF 323) = .bool true := hdep ⟨13, .data⟩ (by simp) rfl _ _ rfl rfl
                      have d17 : (gF 327) = .bool true := hdep ⟨17, .data⟩ (by simp) rfl _ _ rfl rfl
                      clear hag hdep ho
                      refine relStep_off rfl ?_
                      (repeat' ((fail_if_success (with_reducible first | refine stop_h ?_ | refine stop_c ?_ | refine stop_s ?_ | refine stop_i ?_ | refine stop_l ?_ | refine stop_m ?_ | refine stop_o ?_ | refine stop_n ?_ | refine stop_e ?_ | refine stop_b ?_)); first
    | with_reducible first | exact ⟨⟩ | (refine gB ?_; intros) | refine gT ?_ ?_
    | refine gs ?_
    | refine sx ?_))
                    · have e := Option.some.inj ho
                      subst e
                      have d18 : (gF 328) = .bool true := hdep ⟨18, .data⟩ (by simp) rfl _ _ rfl rfl
                      clear hag hdep ho
                      refine relStep_off rfl ?_
                      (repeat' ((fail_if_success (with_reducible first | refine stop_h ?_ | refine stop_c ?_ | refine stop_s ?_ | refine stop_i ?_ | refine stop_l ?_ | refine stop_m ?_ | refine stop_o ?_ | refine stop_n ?_ | refine stop_e ?_ | refine stop_b ?_)); first
    | with_reducible first | exact ⟨⟩ | (refine gB ?_; intros) | refine gT ?_ ?_
    | refine gs ?_
    | refine sx ?_))
                    · have e := Option.some.inj ho
                      subst e
                      have d19 : (gF 329) = .bool true := hdep ⟨19, .guard⟩ (by simp) rfl _ _ rfl rfl
                      clear hag hdep ho
                      refine relStep_on (j := 19) (want := true) (t := 329) rfl rfl (by rw [d19]; rfl) ?_
                      (repeat' ((fail_if_success (with_reducible first | refine stop_h ?_ | refine stop_c ?_ | refine stop_s ?_ | refine stop_i ?_ | refine stop_l ?_ | refine stop_m ?_ | refine stop_o ?_ | refine stop_n ?_ | refine stop_e ?_ | refine stop_b ?_)); first
    | with_reducible first | exact ⟨⟩ | (refine gB ?_; intros) | refine gT ?_ ?_
    | refine gs ?_
    | refine sx ?_))
                      refine CallsV.mono law23awake fun v w10 hh => ⟨hh.2, hh.1⟩
                    · have e := Option.some.inj ho
                      subst e
                      have d19 : (gF 329) = .bool true := hdep ⟨19, .data⟩ (by simp) rfl _ _ rfl rfl
                      have d20 : (gF 330) = .bool true := hdep ⟨20, .data⟩ (by simp) rfl _ _ rfl rfl
                      clear hag hdep ho
                      refine relStep_off rfl ?_
                      (repeat' ((fail_if_success (with_reducible first | refine stop_h ?_ | refine stop_c ?_ | refine stop_s ?_ | refine stop_i ?_ | refine stop_l ?_ | refine stop_m ?_ | refine stop_o ?_ | refine stop_n ?_ | refine stop_e ?_ | refine stop_b ?_)); first
    | with_reducible first | exact ⟨⟩ | (refine gB ?_; intros) | refine gT ?_ ?_
    | refine gs ?_
    | refine sx ?_))
                    · omega
                  · intro g9 w9 hx9 hR hag
                    have s9 := hx9.st
                    have n9 : Now w9 := trivial
                    have r9 := Ext.refl w9
                    have z9 := hx9.size
                    have d21 : (g9 331) = .bool true := hR 21 _ _ (by decide) rfl rfl
                    clear hag hR
                    simp only [List.drop_succ_cons, List.drop_zero]
                    have hxwG : Ext w w9 := hxwF.trans hx9
                    (repeat' ((fail_if_success (with_reducible first | refine stop_h ?_ | refine stop_c ?_ | refine stop_s ?_ | refine stop_i ?_ | refine stop_l ?_ | refine stop_m ?_ | refine stop_o ?_ | refine stop_n ?_ | refine stop_e ?_ | refine stop_b ?_)); first
    | with_reducible first | exact ⟨⟩ | (refine gB ?_; intros) | refine gT ?_ ?_
    | refine gs ?_
    | refine sx ?_))
end
end Go.Proofs.YtopfddchckdhgaaGreat
