
/- The document's answer, layer 26: Handle. -/
import Derived.Test.YtblegjdogmcgbaaGreatAgent3
import Derived.Test.YtblegjdogmcgbaaGreatRef19b
import Derived.Test.YtblegjdogmcgbaaGreatLive13
import Derived.Test.YtblegjdogmcgbaaGreatRel3
namespace Go.Proofs.YtblegjdogmcgbaaGreat
set_option linter.unusedSimpArgs false
set_option linter.unusedVariables false
open Go Go.RowKit
set_option maxRecDepth 100000
set_option linter.unusedSectionVars false
set_option maxHeartbeats 2000000
section
variable {w : World} {B B' : Nat} {u : SiteVs} {s : SiteD} {wv hv rv av : Value} {sl : List SrvV} {x : WorldD} {r : RequestD} {now : Int} {l : List ReplyD}
theorem appA2 {B b cp : Nat} {s : Value} {l : List ReplyD} {k : Value → World → Prop} (x : ReplyD) (hown : OwnA w B s l) (hb : Blk w b 50 (replyC x)) (hbound : l.length < 1000000000000) (hB : B ≤ w.heap.size)
    (hf : ∀ v' w', full s → Ext w w' → OwnA w' w.heap.size v' (l ++ [x]) → k v' w')
    (hr : ∀ g cp w', s = .slice (some ⟨g, 0, none⟩) l.length cp → l.length < cp → Chg w w' g → OwnA w' B (.slice (some ⟨g, 0, none⟩) (l.length + 1) cp) (l ++ [x]) → k (.slice (some ⟨g, 0, none⟩) (l.length + 1) cp) w') : appX Tryz.prog 37 37 37 s (.slice (some ⟨b, 0, none⟩) 1 cp) w k :=
  append_both (e := 50) (sz := 2) (by_ := 16) (z := .agg #[.int .i64 0, .int .u8 0]) (c := replyC) x (by kernel_rfl) (by kernel_rfl) rfl (by decide) (by decide) hown hb rfl (replyC_one x) hbound hB hf hr
theorem ref26Handle (hB : B ≤ w.heap.size) (hs : SiteR w B u s) (hl : WishR w B wv sl) (hx0 : WorldR w B hv rv x) (ha0 : Sl w B (some 2) 2 av (l.map replyV)) (hlen : l.length ≤ 1000000) : CallsV Tryz.prog 12 #[.agg (siteC u s).toArray, .agg #[wv], .agg #[hv, rv], .agg #[av], requestV r, intV now] w fun v w' => Ext w w' ∧ HandR w.heap.size v w' (handleD s (sl.map (·.x)) x l r now) := by
  have hn : Now w := trivial
  have hx : Ext w w := Ext.refl w
  obtain ⟨rid, rl, kd, hto, sv, vr⟩ := r
  have hs' := hs.sk hB
  have hl' := hl.sk hB
  have hx' := hx0.sk hB
  have ha' := ha0.k hB
  have hS := hs'.2.2.2.2.2.2
  have hW := hl'.2.2
  have hX := hx'.2.2.2.2
  have hA := ha'.2.2.2.2.2.2.1
  have hmax := ha0.max_
  have hv1 := fun w' (h1 : Bl B w w') (h3 : B ≤ w'.heap.size) => ref19Valid (st := ⟨kd, hto, sv, vr⟩) h3 (hS w' h1) (hW w' h1)
  have hv2 := fun w' (h1 : Bl B w w') (h3 : B ≤ w'.heap.size) => ref13Valid h3 (hS w' h1) (hW w' h1) (hX w' h1)
  have hkn := fun w' (h1 : Bl B w w') (h3 : B ≤ w'.heap.size) => ref26Known (id := rid) h3 (hA w' h1)
  have hbad : (validB s (sl.map (·.x)) x = false ∨ stepB2 s (sl.map (·.x)) ⟨kd, hto, sv, vr⟩ = false ∨ rid < 1 ∨ rl < 0 ∨ now < 0) → Hid (handleD s (sl.map (·.x)) x l ⟨rid, rl, ⟨kd, hto, sv, vr⟩⟩ now = ⟨noW, [], ⟨0, 0⟩, 1⟩) := fun h => hand_bad h
  have hgood : validB s (sl.map (·.x)) x = true → stepB2 s (sl.map (·.x)) ⟨kd, hto, sv, vr⟩ = true → ¬ rid < 1 → ¬ rl < 0 → ¬ now < 0 → Hid _ := fun h1 h2 h3 h4 h5 => hand_ok (l := l) (r := ⟨rid, rl, ⟨kd, hto, sv, vr⟩⟩) h1 h2 h3 h4 h5
  have hpar : validB s (sl.map (·.x)) x = true → stepB2 s (sl.map (·.x)) ⟨kd, hto, sv, vr⟩ = true → Hid ((x.hosts.length ≤ 1000000 ∧ x.replicas.length ≤ 1000000) ∧ 0 ≤ hto ∧ hto < x.hosts.length) := fun h1 h2 => by
    have a := step_parts h2
    have b := valid_parts h1
    exact ⟨hand_len h1, a.2.2.2.1, by have := a.2.2.2.2.1; simp only at this; omega⟩
  generalize handleD s (sl.map (·.x)) x l ⟨rid, rl, ⟨kd, hto, sv, vr⟩⟩ now = D at *
  generalize stepB2 s (sl.map (·.x)) ⟨kd, hto, sv, vr⟩ = sb at *
  generalize validB s (sl.map (·.x)) x = vb at *
  replace hbad : Hid _ := hbad
  replace hgood : Hid _ := hgood
  replace hkn : Hid _ := hkn
  (refine callsV_of Tryz.func12 rfl (by kernel_rfl) (by kernel_rfl) ?_; rw [Tryz.results12])
  cases vb
  · obtain rfl := (hbad.out (.inl rfl)).out
    clear hbad hgood hpar
    (repeat' first
    | ((with_reducible refine at_row ?_); refine row1_k (by rfl) (by decide) fun _ _ _ _ _ _ _ => ?_)
    | with_reducible first | refine alloc_k fun _ _ _ _ _ _ => ?_ | refine row_k fun _ _ _ _ _ _ => ?_ | refine fork (fun _ => ?_) fun _ => ?_ | refine forkp (fun _ => ?_) fun _ => ?_ | refine forke (fun _ => ?_) fun _ _ => ?_ | refine tail_k fun _ _ _ => ?_ | refine ext_k fun _ _ _ => ?_ | refine need_a ?_ | refine st_agg (by kernel_rfl) rfl (by simp only [natV, intV, S3, *]) fun _ _ _ _ => ?_ | refine wpd_q_a ?_
    | ((with_reducible refine at_f 24 ?_); refine ret_k (hv2 _ FR FR) fun _ _ _ => ?_)
    | ((with_reducible refine at_f 18 ?_); refine ret_k (hv1 _ FR FR) fun _ _ _ => ?_)
    | simp (maxDischargeDepth := 3) only [↓X, ↓Y, ↓Q, S1, ↓reduceIte, Nat.reduceEqDiff, Nat.reduceAdd, Int.reduceLT, Int.reduceLE, Int.reduceNeg, Int.reduceBEq, Int.reduceBNe, Int.reduceEq, Nat.reduceLeDiff, Nat.reduceMul, Nat.reduceLT, natV, intV, putAt, idxOk, flatP, *, siteC, requestV, requestC]
    | simp (singlePass := true) (maxDischargeDepth := 99) only [*, S2, Nat.reduceLT, siteC, requestV, requestC])
    all_goals exact ⟨_, _, rfl, OwnW.none _ _, Own.nil _ _ _ _⟩
  cases sb
  · obtain rfl := (hbad.out (.inr (.inl rfl))).out
    clear hbad hgood hpar
    (repeat' first
    | ((with_reducible refine at_row ?_); refine row1_k (by rfl) (by decide) fun _ _ _ _ _ _ _ => ?_)
    | with_reducible first | refine alloc_k fun _ _ _ _ _ _ => ?_ | refine row_k fun _ _ _ _ _ _ => ?_ | refine fork (fun _ => ?_) fun _ => ?_ | refine forkp (fun _ => ?_) fun _ => ?_ | refine forke (fun _ => ?_) fun _ _ => ?_ | refine tail_k fun _ _ _ => ?_ | refine ext_k fun _ _ _ => ?_ | refine need_a ?_ | refine st_agg (by kernel_rfl) rfl (by simp only [natV, intV, S3, *]) fun _ _ _ _ => ?_ | refine wpd_q_a ?_
    | ((with_reducible refine at_f 24 ?_); refine ret_k (hv2 _ FR FR) fun _ _ _ => ?_)
    | ((with_reducible refine at_f 18 ?_); refine ret_k (hv1 _ FR FR) fun _ _ _ => ?_)
    | simp (maxDischargeDepth := 3) only [↓X, ↓Y, ↓Q, S1, ↓reduceIte, Nat.reduceEqDiff, Nat.reduceAdd, Int.reduceLT, Int.reduceLE, Int.reduceNeg, Int.reduceBEq, Int.reduceBNe, Int.reduceEq, Nat.reduceLeDiff, Nat.reduceMul, Nat.reduceLT, natV, intV, putAt, idxOk, flatP, *, siteC, requestV, requestC, stepV, stepC]
    | simp (singlePass := true) (maxDischargeDepth := 99) only [*, S2, Nat.reduceLT, siteC, requestV, requestC, stepV, stepC])
    all_goals exact ⟨_, _, rfl, OwnW.none _ _, Own.nil _ _ _ _⟩
  have hp := hpar rfl rfl
  clear hpar
  (repeat' first
    | ((with_reducible refine at_row ?_); refine row1_k (by rfl) (by decide) fun _ _ _ _ _ _ _ => ?_)
    | with_reducible first | refine alloc_k fun _ _ _ _ _ _ => ?_ | refine row_k fun _ _ _ _ _ _ => ?_ | refine fork (fun _ => ?_) fun _ => ?_ | refine forkp (fun _ => ?_) fun _ => ?_ | refine forke (fun _ => ?_) fun _ _ => ?_ | refine tail_k fun _ _ _ => ?_ | refine ext_k fun _ _ _ => ?_ | refine need_a ?_ | refine st_agg (by kernel_rfl) rfl (by simp only [natV, intV, S3, *]) fun _ _ _ _ => ?_ | refine wpd_q_a ?_
    | ((with_reducible refine at_f 24 ?_); refine ret_k (hv2 _ FR FR) fun _ _ _ => ?_)
    | ((with_reducible refine at_f 18 ?_); refine ret_k (hv1 _ FR FR) fun _ _ _ => ?_)
    | simp (maxDischargeDepth := 3) only [↓X, ↓Y, ↓Q, S1, ↓reduceIte, Nat.reduceEqDiff, Nat.reduceAdd, Int.reduceLT, Int.reduceLE, Int.reduceNeg, Int.reduceBEq, Int.reduceBNe, Int.reduceEq, Nat.reduceLeDiff, Nat.reduceMul, Nat.reduceLT, natV, intV, putAt, idxOk, flatP, *, siteC, requestV, requestC, stepV, stepC]
    | simp (singlePass := true) (maxDischargeDepth := 99) only [*, S2, Nat.reduceLT, siteC, requestV, requestC, stepV, stepC])
  all_goals first
    | (obtain rfl := (hbad.out (.inr (.inr (by omega)))).out
       exact ⟨_, _, rfl, OwnW.none _ _, Own.nil _ _ _ _⟩)
    | skip
  rename_i bx6 wx6 nx6 kx6 sx6 qx6 bx7 wx7 nx7 kx7 sx7 qx7 bx8 wx8 nx8 kx8 sx8 qx8 bx9 wx9 nx9 kx9 sx9 qx9 bx10 wx10 nx10 kx10 sx10 qx10 b12 w12 n12 k12 s12 q12 b13 w13 n13 k13 s13 q13 b14 w14 n14 k14 s14 q14 wv1 nv1 sv1 wv2 nv2 sv2 hid hrl hnow
  have hg : Hid _ := (hgood.out rfl rfl (by omega) (by omega) (by omega)).out
  clear hbad hgood
  refine newA (B := B) (Own.nil _ _ _ _) (hA _ FR) (by omega) ?_
  intro v2 w2 n2 s2 oa2
  have A2 := oa2.o
  have hlen2 : lenN v2 = l.length := by simpa using (oa2.slN (f := replyC)).len
  clear oa2
  (repeat' first
    | ((with_reducible refine at_row ?_); refine row1_k (by rfl) (by decide) fun _ _ _ _ _ _ _ => ?_)
    | with_reducible first | refine alloc_k fun _ _ _ _ _ _ => ?_ | refine row_k fun _ _ _ _ _ _ => ?_ | refine fork (fun _ => ?_) fun _ => ?_ | refine forkp (fun _ => ?_) fun _ => ?_ | refine forke (fun _ => ?_) fun _ _ => ?_ | refine tail_k fun _ _ _ => ?_ | refine ext_k fun _ _ _ => ?_ | refine need_a ?_ | refine st_agg (by kernel_rfl) rfl (by simp only [natV, intV, S3, *]) fun _ _ _ _ => ?_ | refine wpd_q_a ?_
    | simp (maxDischargeDepth := 3) only [↓X, ↓Y, ↓Q, S1, ↓reduceIte, Nat.reduceEqDiff, Nat.reduceAdd, Int.reduceLT, Int.reduceLE, Int.reduceNeg, Int.reduceBEq, Int.reduceBNe, Int.reduceEq, Nat.reduceLeDiff, Nat.reduceMul, Nat.reduceLT, natV, intV, putAt, idxOk, flatP, *, siteC, requestV, requestC]
    | simp (singlePass := true) (maxDischargeDepth := 99) only [*, S2, Nat.reduceLT, siteC, requestV, requestC])
  refine call_k (ref13Copy (B := B) FR (hX _ FR) ⟨by have := hp.out.1.1; omega, by have := hp.out.1.2; omega⟩) ?_
  rintro _ w6 n6 s6 ⟨h6, r6, rfl, oh6, or6⟩
  have H6 := oh6.o
  have R6 := or6.o
  clear oh6 or6
  (repeat' first
    | ((with_reducible refine at_row ?_); refine row1_k (by rfl) (by decide) fun _ _ _ _ _ _ _ => ?_)
    | with_reducible first | refine alloc_k fun _ _ _ _ _ _ => ?_ | refine row_k fun _ _ _ _ _ _ => ?_ | refine fork (fun _ => ?_) fun _ => ?_ | refine forkp (fun _ => ?_) fun _ => ?_ | refine forke (fun _ => ?_) fun _ _ => ?_ | refine tail_k fun _ _ _ => ?_ | refine ext_k fun _ _ _ => ?_ | refine need_a ?_ | refine st_agg (by kernel_rfl) rfl (by simp only [natV, intV, S3, *]) fun _ _ _ _ => ?_ | refine wpd_q_a ?_
    | simp (maxDischargeDepth := 3) only [↓X, ↓Y, ↓Q, S1, ↓reduceIte, Nat.reduceEqDiff, Nat.reduceAdd, Int.reduceLT, Int.reduceLE, Int.reduceNeg, Int.reduceBEq, Int.reduceBNe, Int.reduceEq, Nat.reduceLeDiff, Nat.reduceMul, Nat.reduceLT, natV, intV, putAt, idxOk, flatP, *, siteC, requestV, requestC]
    | simp (singlePass := true) (maxDischargeDepth := 99) only [*, S2, Nat.reduceLT, siteC, requestV, requestC])
  rename_i wC nC kC sC
  refine ret_k (hkn.out _ FR FR) fun w3 n3 s3 => ?_
  clear hkn
  rcases hko : knownO l rid with _ | p
  · by_cases h400 : 400 ≤ l.length
    · obtain rfl := hg.out.2.1 hko h400
      have h401 : (400 : Int) ≤ (l.length : Int) := by omega
      clear hg hko
      (repeat' first
    | ((with_reducible refine at_row ?_); refine row1_k (by rfl) (by decide) fun _ _ _ _ _ _ _ => ?_)
    | with_reducible first | refine alloc_k fun _ _ _ _ _ _ => ?_ | refine row_k fun _ _ _ _ _ _ => ?_ | refine fork (fun _ => ?_) fun _ => ?_ | refine forkp (fun _ => ?_) fun _ => ?_ | refine forke (fun _ => ?_) fun _ _ => ?_ | refine tail_k fun _ _ _ => ?_ | refine ext_k fun _ _ _ => ?_ | refine need_a ?_ | refine st_agg (by kernel_rfl) rfl (by simp only [natV, intV, S3, *]) fun _ _ _ _ => ?_ | refine wpd_q_a ?_
    | simp (maxDischargeDepth := 3) only [↓X, ↓Y, ↓Q, S1, ↓reduceIte, Nat.reduceEqDiff, Nat.reduceAdd, Int.reduceLT, Int.reduceLE, Int.reduceNeg, Int.reduceBEq, Int.reduceBNe, Int.reduceEq, Nat.reduceLeDiff, Nat.reduceMul, Nat.reduceLT, natV, intV, putAt, idxOk, flatP, *, siteC, requestV, requestC, knownV]
    | simp (singlePass := true) (maxDischargeDepth := 99) only [*, S2, Nat.reduceLT, siteC, requestV, requestC, knownV])
      exact ⟨_, _, rfl, OwnW.none _ _, Own.nil _ _ _ _⟩
    · have hD := hg.out.2.2 hko h400
      have hnw : newW s (sl.map (·.x)) x ⟨rid, rl, ⟨kd, hto, sv, vr⟩⟩ now = if ansI s (sl.map (·.x)) x ⟨rid, rl, ⟨kd, hto, sv, vr⟩⟩ now = 1 then applyW s (sl.map (·.x)) x ⟨kd, hto, sv, vr⟩ else x := rfl
      have hans := fun w' (h1 : Bl B w w') (h3 : B ≤ w'.heap.size) (h4 : Bp h6 w6 w') (h5 : Bp r6 w6 w') => ref26Answer (r := ⟨rid, rl, ⟨kd, hto, sv, vr⟩⟩) (now := now) (B := w'.heap.size) (Nat.le_refl _) ((hS w' h1).up h3) ((hW w' h1).up h3) ⟨(H6.1 w' h4).slN (f := stateC), (R6.1 w' h5).slN (f := replC)⟩ hp.out.2
      have hap := fun w' (h1 : Bl B w w') (h3 : B ≤ w'.heap.size) (h4 : Bp h6 w6 w') (h5 : Bp r6 w6 w') => ref19Apply (st := ⟨kd, hto, sv, vr⟩) (B := w'.heap.size) (Nat.le_refl _) ((hS w' h1).up h3) ((hW w' h1).up h3) ⟨(H6.1 w' h4).slN (f := stateC), (R6.1 w' h5).slN (f := replC)⟩
      rw [hnw] at hD
      generalize ansI s (sl.map (·.x)) x ⟨rid, rl, ⟨kd, hto, sv, vr⟩⟩ now = an at *
      subst hD
      replace hans : Hid _ := hans
      replace hap : Hid _ := hap
      have h401 : ¬ (400 : Int) ≤ (l.length : Int) := by omega
      replace h400 : Hid _ := h400
      clear hg hko hnw
      by_cases han1 : an = 1
      · subst han1
        (repeat' first
    | ((with_reducible refine wpd_at 11 ?_); refine wpd_hold ?_)
    | ((with_reducible refine at_row ?_); refine row1_k (by rfl) (by decide) fun _ _ _ _ _ _ _ => ?_)
    | with_reducible first | refine alloc_k fun _ _ _ _ _ _ => ?_ | refine row_k fun _ _ _ _ _ _ => ?_ | refine fork (fun _ => ?_) fun _ => ?_ | refine forkp (fun _ => ?_) fun _ => ?_ | refine forke (fun _ => ?_) fun _ _ => ?_ | refine tail_k fun _ _ _ => ?_ | refine ext_k fun _ _ _ => ?_ | refine need_a ?_ | refine st_agg (by kernel_rfl) rfl (by simp only [natV, intV, S3, *]) fun _ _ _ _ => ?_ | refine wpd_q_a ?_
    | simp (maxDischargeDepth := 3) only [↓X, ↓Y, ↓Q, S1, ↓reduceIte, Nat.reduceEqDiff, Nat.reduceAdd, Int.reduceLT, Int.reduceLE, Int.reduceNeg, Int.reduceBEq, Int.reduceBNe, Int.reduceEq, Nat.reduceLeDiff, Nat.reduceMul, Nat.reduceLT, natV, intV, putAt, idxOk, flatP, *, siteC, requestV, requestC, knownV]
    | simp (singlePass := true) (maxDischargeDepth := 99) only [*, S2, Nat.reduceLT, siteC, requestV, requestC, knownV])
        rename_i b17 w17 n17 k17 s17 q17 w5 n5 k5 s5
        unfold wpdH
        refine wpd_rel2 10 (fun iI v w9 => match iI with
          | 0 => v = .pointer (some ⟨bx10, 0, none⟩)
          | 1 => v = intV rid
          | 2 => v = .agg (siteC u s).toArray
          | 3 => v = .agg #[wv]
          | 4 => v = .agg #[h6, r6]
          | 5 => v = requestV ⟨rid, rl, ⟨kd, hto, sv, vr⟩⟩
          | 6 => v = intV now
          | 7 => v = .int .u8 1
          | 8 => v = .agg #[intV rid, .int .u8 1]
          | 9 => ∃ b, v = .pointer (some ⟨b, 0, none⟩) ∧ Blk w9 b 50 [.int .i64 0, .int .u8 0] ∧ w5.heap.size ≤ b
          | _ => False) (fun iI => iI == 9) ?_ (by kernel_rfl) (by kernel_rfl) (by kernel_rfl) ?_ ?_ ?_
        · intro iI v w9 hF hR b hb
          match iI, hF, hR with
          | 0, hF, _ => exact absurd hF (by decide)
          | 1, hF, _ => exact absurd hF (by decide)
          | 2, hF, _ => exact absurd hF (by decide)
          | 3, hF, _ => exact absurd hF (by decide)
          | 4, hF, _ => exact absurd hF (by decide)
          | 5, hF, _ => exact absurd hF (by decide)
          | 6, hF, _ => exact absurd hF (by decide)
          | 7, hF, _ => exact absurd hF (by decide)
          | 8, hF, _ => exact absurd hF (by decide)
          | 9, _, ⟨b2, e, h1, _⟩ => subst e; obtain rfl := Option.some.inj hb; exact h1.lt
          | iI + 10, _, h => exact h.elim
        · intro iI v w1 w2 hR hx9
          match iI, hR with
          | 0, h => exact h
          | 1, h => exact h
          | 2, h => exact h
          | 3, h => exact h
          | 4, h => exact h
          | 5, h => exact h
          | 6, h => exact h
          | 7, h => exact h
          | 8, h => exact h
          | 9, ⟨b, e, h1, h2⟩ => exact ⟨b, e, h1.ext hx9, h2⟩
        · intro iI oO hi ho gF w9 hx9 hdep hag
          have s9 := hx9.st
          have n9 : Now w9 := trivial
          have r9 := Ext.refl w9
          have z9 := hx9.size
          rcases iI with _|_|_|_|_|_|_|_|_|_|iI
          have e := Option.some.inj ho
          subst e
          have a10 := hag.at 10 (by kernel_rfl)
          simp only [S5, ↓reduceIte, Nat.reduceEqDiff, initF, *] at a10
          clear hag hdep ho
          refine ⟨fun _ => ?_, fun hF => absurd hF (by decide)⟩
          refine relStep_off rfl ?_
          rotate_left
          have e := Option.some.inj ho
          subst e
          have d0 : (gF 74) = .pointer (some ⟨bx10, 0, none⟩) := hdep ⟨0, .data⟩ (by simp) rfl _ _ rfl rfl
          clear hag hdep ho
          refine ⟨fun _ => ?_, fun hF => absurd hF (by decide)⟩
          refine relStep_off rfl ?_
          rotate_left
          have e := Option.some.inj ho
          subst e
          have a6 := hag.at 6 (by kernel_rfl)
          simp only [S5, ↓reduceIte, Nat.reduceEqDiff, initF, *] at a6
          clear hag hdep ho
          refine ⟨fun _ => ?_, fun hF => absurd hF (by decide)⟩
          refine relStep_off rfl ?_
          rotate_left
          have e := Option.some.inj ho
          subst e
          have a7 := hag.at 7 (by kernel_rfl)
          simp only [S5, ↓reduceIte, Nat.reduceEqDiff, initF, *] at a7
          clear hag hdep ho
          refine ⟨fun _ => ?_, fun hF => absurd hF (by decide)⟩
          refine relStep_off rfl ?_
          rotate_left
          have e := Option.some.inj ho
          subst e
          have a8 := hag.at 8 (by kernel_rfl)
          simp only [S5, ↓reduceIte, Nat.reduceEqDiff, initF, *] at a8
          clear hag hdep ho
          refine ⟨fun _ => ?_, fun hF => absurd hF (by decide)⟩
          refine relStep_off rfl ?_
          rotate_left
          have e := Option.some.inj ho
          subst e
          have a10 := hag.at 10 (by kernel_rfl)
          simp only [S5, ↓reduceIte, Nat.reduceEqDiff, initF, *] at a10
          clear hag hdep ho
          refine ⟨fun _ => ?_, fun hF => absurd hF (by decide)⟩
          refine relStep_off rfl ?_
          rotate_left
          have e := Option.some.inj ho
          subst e
          have a5 := hag.at 5 (by kernel_rfl)
          simp only [S5, ↓reduceIte, Nat.reduceEqDiff, initF, *] at a5
          clear hag hdep ho
          refine ⟨fun _ => ?_, fun hF => absurd hF (by decide)⟩
          refine relStep_off rfl ?_
          rotate_left
          have e := Option.some.inj ho
          subst e
          have d2 : (gF 76) = .agg (siteC u s).toArray := hdep ⟨2, .data⟩ (by simp) rfl _ _ rfl rfl
          have d3 : (gF 77) = .agg #[wv] := hdep ⟨3, .data⟩ (by simp) rfl _ _ rfl rfl
          have d4 : (gF 78) = .agg #[h6, r6] := hdep ⟨4, .data⟩ (by simp) rfl _ _ rfl rfl
          have d5 : (gF 79) = requestV ⟨rid, rl, ⟨kd, hto, sv, vr⟩⟩ := hdep ⟨5, .data⟩ (by simp) rfl _ _ rfl rfl
          have d6 : (gF 80) = intV now := hdep ⟨6, .data⟩ (by simp) rfl _ _ rfl rfl
          clear hag hdep ho
          refine ⟨fun _ => ?_, fun hF => absurd hF (by decide)⟩
          refine relStep_off rfl ?_
          rotate_left
          have e := Option.some.inj ho
          subst e
          have d1 : (gF 75) = intV rid := hdep ⟨1, .data⟩ (by simp) rfl _ _ rfl rfl
          have d7 : (gF 81) = .int .u8 1 := hdep ⟨7, .data⟩ (by simp) rfl _ _ rfl rfl
          clear hag hdep ho
          refine ⟨fun _ => ?_, fun hF => absurd hF (by decide)⟩
          refine relStep_off rfl ?_
          rotate_left
          · have e := Option.some.inj ho
            subst e
            clear hag hdep ho
            refine ⟨fun hF => absurd hF (by decide), fun _ => ?_⟩
            refine relStep_off rfl ?_
            (repeat' first
    | ((with_reducible refine at_row ?_); refine row1_k (by rfl) (by decide) fun _ _ _ _ _ _ _ => ?_)
    | with_reducible first | refine alloc_k fun _ _ _ _ _ _ => ?_ | refine row_k fun _ _ _ _ _ _ => ?_ | refine fork (fun _ => ?_) fun _ => ?_ | refine forkp (fun _ => ?_) fun _ => ?_ | refine forke (fun _ => ?_) fun _ _ => ?_ | refine tail_k fun _ _ _ => ?_ | refine ext_k fun _ _ _ => ?_ | refine need_a ?_ | refine st_agg (by kernel_rfl) rfl (by simp only [natV, intV, S3, *]) fun _ _ _ _ => ?_ | refine wpd_q_a ?_
    | ((with_reducible refine at_f 22 ?_); refine ret_k (hans.out _ FR FR FR FR) fun _ _ _ => ?_)
    | simp (maxDischargeDepth := 3) only [↓X, ↓Y, ↓Q, S1, ↓reduceIte, Nat.reduceEqDiff, Nat.reduceAdd, Int.reduceLT, Int.reduceLE, Int.reduceNeg, Int.reduceBEq, Int.reduceBNe, Int.reduceEq, Nat.reduceLeDiff, Nat.reduceMul, Nat.reduceLT, natV, intV, putAt, idxOk, flatP, *, siteC, requestV, requestC]
    | simp (singlePass := true) (maxDischargeDepth := 99) only [*, S2, Nat.reduceLT, siteC, requestV, requestC])
            first
              | (rename_i b10 w10 n10 k10 s10 q10; exact ⟨⟨_, rfl, k10.2.1 _ k10.2.2.1, FR⟩, fun b hb => by obtain rfl := Option.some.inj hb; exact FR⟩)
              | (rename_i b10 w10 n10 k10 s10 q10 l10; exact ⟨⟨_, rfl, k10.2.1 _ k10.2.2.1, FR⟩, fun b hb => by obtain rfl := Option.some.inj hb; exact FR⟩)
          · omega
          all_goals (repeat' first
    | ((with_reducible refine at_row ?_); refine row1_k (by rfl) (by decide) fun _ _ _ _ _ _ _ => ?_)
    | with_reducible first | refine alloc_k fun _ _ _ _ _ _ => ?_ | refine row_k fun _ _ _ _ _ _ => ?_ | refine fork (fun _ => ?_) fun _ => ?_ | refine forkp (fun _ => ?_) fun _ => ?_ | refine forke (fun _ => ?_) fun _ _ => ?_ | refine tail_k fun _ _ _ => ?_ | refine ext_k fun _ _ _ => ?_ | refine need_a ?_ | refine st_agg (by kernel_rfl) rfl (by simp only [natV, intV, S3, *]) fun _ _ _ _ => ?_ | refine wpd_q_a ?_
    | ((with_reducible refine at_f 22 ?_); refine ret_k (hans.out _ FR FR FR FR) fun _ _ _ => ?_)
    | simp (maxDischargeDepth := 3) only [↓X, ↓Y, ↓Q, S1, ↓reduceIte, Nat.reduceEqDiff, Nat.reduceAdd, Int.reduceLT, Int.reduceLE, Int.reduceNeg, Int.reduceBEq, Int.reduceBNe, Int.reduceEq, Nat.reduceLeDiff, Nat.reduceMul, Nat.reduceLT, natV, intV, putAt, idxOk, flatP, *, siteC, requestV, requestC]
    | simp (singlePass := true) (maxDischargeDepth := 99) only [*, S2, Nat.reduceLT, siteC, requestV, requestC])
        · intro g9 w9 hx9 hR hDis hag
          have s9 := hx9.st
          have n9 : Now w9 := trivial
          have r9 := Ext.refl w9
          have z9 := hx9.size
          have d8 : (g9 82) = .agg #[intV rid, .int .u8 1] := hR 8 _ _ (by decide) rfl rfl
          have d9 : ∃ b, (g9 19) = .pointer (some ⟨b, 0, none⟩) ∧ Blk w9 b 50 [.int .i64 0, .int .u8 0] ∧ w5.heap.size ≤ b := hR 9 _ _ (by decide) rfl rfl
          obtain ⟨b9, e9, hb9, q9⟩ := d9
          have k9 := hb9.bk
          have nw9 := Nw.of q9
          have a6 := hag.at 6 (by kernel_rfl)
          have a7 := hag.at 7 (by kernel_rfl)
          have a8 := hag.at 8 (by kernel_rfl)
          have a10 := hag.at 10 (by kernel_rfl)
          have a12 := hag.at 12 (by kernel_rfl)
          have a13 := hag.at 13 (by kernel_rfl)
          have a14 := hag.at 14 (by kernel_rfl)
          have a16 := hag.at 16 (by kernel_rfl)
          have a36 := hag.at 36 (by kernel_rfl)
          have a39 := hag.at 39 (by kernel_rfl)
          have a50 := hag.at 50 (by kernel_rfl)
          simp only [S5, ↓reduceIte, Nat.reduceEqDiff, initF, *] at a6 a7 a8 a10 a12 a13 a14 a16 a36 a39 a50
          clear hag hR hDis
          simp only [List.drop_succ_cons, List.drop_zero]
          (repeat' first
    | ((with_reducible refine at_row ?_); refine row1_k (by rfl) (by decide) fun _ _ _ _ _ _ _ => ?_)
    | with_reducible first | refine alloc_k fun _ _ _ _ _ _ => ?_ | refine row_k fun _ _ _ _ _ _ => ?_ | refine fork (fun _ => ?_) fun _ => ?_ | refine forkp (fun _ => ?_) fun _ => ?_ | refine forke (fun _ => ?_) fun _ _ => ?_ | refine tail_k fun _ _ _ => ?_ | refine ext_k fun _ _ _ => ?_ | refine need_a ?_ | refine st_agg (by kernel_rfl) rfl (by simp only [natV, intV, S3, *]) fun _ _ _ _ => ?_ | refine wpd_q_a ?_
    | simp (maxDischargeDepth := 3) only [↓X, ↓Y, ↓Q, S1, ↓reduceIte, Nat.reduceEqDiff, Nat.reduceAdd, Int.reduceLT, Int.reduceLE, Int.reduceNeg, Int.reduceBEq, Int.reduceBNe, Int.reduceEq, Nat.reduceLeDiff, Nat.reduceMul, Nat.reduceLT, natV, intV, putAt, idxOk, flatP, *, siteC, requestV, requestC]
    | simp (singlePass := true) (maxDischargeDepth := 99) only [*, S2, Nat.reduceLT, siteC, requestV, requestC])
          refine call_k (hap.out _ FR FR FR FR) ?_
          rintro _ w7 n7 s7 ⟨u7, rfl, h7, r7, rfl, oh7, or7⟩
          have H7 := oh7.o
          have R7 := or7.o
          clear oh7 or7
          have HH7 := H7
          have RR7 := R7
          clear H7 R7
          (repeat' first
    | ((with_reducible refine wpd_at 14 ?_); refine wpd_hold ?_)
    | ((with_reducible refine at_row ?_); refine row1_k (by rfl) (by decide) fun _ _ _ _ _ _ _ => ?_)
    | with_reducible first | refine alloc_k fun _ _ _ _ _ _ => ?_ | refine row_k fun _ _ _ _ _ _ => ?_ | refine fork (fun _ => ?_) fun _ => ?_ | refine forkp (fun _ => ?_) fun _ => ?_ | refine forke (fun _ => ?_) fun _ _ => ?_ | refine tail_k fun _ _ _ => ?_ | refine ext_k fun _ _ _ => ?_ | refine need_a ?_ | refine st_agg (by kernel_rfl) rfl (by simp only [natV, intV, S3, *]) fun _ _ _ _ => ?_ | refine wpd_q_a ?_
    | simp (maxDischargeDepth := 3) only [↓X, ↓Y, ↓Q, S1, ↓reduceIte, Nat.reduceEqDiff, Nat.reduceAdd, Int.reduceLT, Int.reduceLE, Int.reduceNeg, Int.reduceBEq, Int.reduceBNe, Int.reduceEq, Nat.reduceLeDiff, Nat.reduceMul, Nat.reduceLT, natV, intV, putAt, idxOk, flatP, *, siteC, requestV, requestC]
    | simp (singlePass := true) (maxDischargeDepth := 99) only [*, S2, Nat.reduceLT, siteC, requestV, requestC])
          rename_i w18 n18 k18 s18
          rcases (A2.1 w18 FR).room with hfull | ⟨g, cp, hv2e, hroom, hBg, hgl⟩
          · replace hfull : Hid _ := hfull
            have hRB : ∀ b ∈ [b12, b13, b14], b < w18.heap.size := by simp only [List.mem_cons, List.not_mem_nil, or_false, forall_eq_or_imp, forall_eq]; exact FR
            unfold wpdH
            refine wpd_relL 10 [b12, b13, b14] [(7, b12), (8, b13), (9, b14)] rfl (fun iI v w9 => match iI with
              | 0 => v = .agg #[h7, r7]
              | 1 => v = v2
              | 2 => v = .agg #[intV rid, .int .u8 1]
              | 3 => ∃ b, v = .slice (some ⟨b, 0, none⟩) 1 1 ∧ Blk w9 b 50 (replyC ⟨rid, 1⟩) ∧ w18.heap.size ≤ b
              | 4 => OwnA w9 w18.heap.size v (l ++ [⟨rid, 1⟩])
              | 5 => ∃ a, v = .agg #[a] ∧ OwnA w9 w18.heap.size a (l ++ [⟨rid, 1⟩])
              | 6 => v = .agg #[intV rid, .int .u8 1]
              | 7 => Blk w9 b12 36 [h7, r7]
              | 8 => ∃ a, Blk w9 b13 39 [a] ∧ OwnA w9 w18.heap.size a (l ++ [⟨rid, 1⟩])
              | 9 => Blk w9 b14 50 (replyC ⟨rid, 1⟩)
              | _ => False) (by kernel_rfl) (by kernel_rfl) (by kernel_rfl) hRB (by simp only [List.nodup_cons, List.mem_cons, List.not_mem_nil, or_false, not_or, List.nodup_nil, not_false_eq_true, and_true]; exact FR) ?_ ?_ ?_
            · intro iI v w1 w2 hR hx9
              match iI, hR with
              | 0, h => exact h
              | 1, h => exact h
              | 2, h => exact h
              | 3, ⟨b, e, h1, h2⟩ => exact ⟨b, e, h1.tb hx9 (fun hX => by have := hRB b hX.1; omega), h2⟩
              | 4, h => exact Own.tb h hx9 (fun b hb => hRB b hb.1)
              | 5, h => exact (let ⟨a, e, o⟩ := h; ⟨a, e, Own.tb o hx9 (fun b hb => hRB b hb.1)⟩)
              | 6, h => exact h
              | 7, h => exact h.tb hx9 (fun hX => hX.2 rfl)
              | 8, h => exact (let ⟨a, k, o1⟩ := h; ⟨a, k.tb hx9 (fun hX => hX.2 rfl), Own.tb o1 hx9 (fun b hb => hRB b hb.1)⟩)
              | 9, h => exact h.tb hx9 (fun hX => hX.2 rfl)
            · intro iI oO hi ho gF w9 hx9 hdep hag
              have s9 := hx9.sb
              simp only [Sb, List.mem_cons, List.not_mem_nil, or_false, forall_eq_or_imp, forall_eq] at s9
              have n9 : Now w9 := trivial
              have r9 := Ext.refl w9
              have z9 := hx9.size
              rcases iI with _|_|_|_|_|_|_|_|_|_|iI
              have e := Option.some.inj ho
              subst e
              have a8 := hag.at 8 (by kernel_rfl)
              simp only [S5, ↓reduceIte, Nat.reduceEqDiff, initF, *] at a8
              clear hag hdep ho
              refine ⟨fun _ => ?_, fun b hb => by simp [bkL] at hb⟩
              refine relStep_off rfl ?_
              rotate_left
              have e := Option.some.inj ho
              subst e
              have a16 := hag.at 16 (by kernel_rfl)
              simp only [S5, ↓reduceIte, Nat.reduceEqDiff, initF, *] at a16
              clear hag hdep ho
              refine ⟨fun _ => ?_, fun b hb => by simp [bkL] at hb⟩
              refine relStep_off rfl ?_
              rotate_left
              have e := Option.some.inj ho
              subst e
              have a19 := hag.at 19 (by kernel_rfl)
              simp only [S5, ↓reduceIte, Nat.reduceEqDiff, initF, *] at a19
              clear hag hdep ho
              refine ⟨fun _ => ?_, fun b hb => by simp [bkL] at hb⟩
              refine relStep_off rfl ?_
              rotate_left
              have e := Option.some.inj ho
              subst e
              have d2 : (gF 97) = .agg #[intV rid, .int .u8 1] := hdep ⟨2, .data⟩ (by simp) rfl _ _ rfl rfl
              clear hag hdep ho
              refine ⟨fun _ => ?_, fun b hb => by simp [bkL] at hb⟩
              refine relStep_off rfl ?_
              rotate_left
              have e := Option.some.inj ho
              subst e
              have d1 : (gF 96) = v2 := hdep ⟨1, .data⟩ (by simp) rfl _ _ rfl rfl
              have d3 : ∃ b, (gF 98) = .slice (some ⟨b, 0, none⟩) 1 1 ∧ Blk w9 b 50 (replyC ⟨rid, 1⟩) ∧ w18.heap.size ≤ b := hdep ⟨3, .data⟩ (by simp) rfl _ _ rfl rfl
              obtain ⟨b3, e3, hb3, q3⟩ := d3
              have k3 := hb3.bk
              have nw3 := Nw.of q3
              clear hag hdep ho
              refine ⟨fun _ => ?_, fun b hb => by simp [bkL] at hb⟩
              refine relStep_off rfl ?_
              rotate_left
              have e := Option.some.inj ho
              subst e
              have d4 : OwnA w9 w18.heap.size (gF 99) (l ++ [⟨rid, 1⟩]) := hdep ⟨4, .data⟩ (by simp) rfl _ _ rfl rfl
              have A4 := d4.o
              clear hag hdep ho
              refine ⟨fun _ => ?_, fun b hb => by simp [bkL] at hb⟩
              refine relStep_off rfl ?_
              rotate_left
              have e := Option.some.inj ho
              subst e
              have a19 := hag.at 19 (by kernel_rfl)
              simp only [S5, ↓reduceIte, Nat.reduceEqDiff, initF, *] at a19
              clear hag hdep ho
              refine ⟨fun _ => ?_, fun b hb => by simp [bkL] at hb⟩
              refine relStep_off rfl ?_
              rotate_left
              have e := Option.some.inj ho
              subst e
              have a12 := hag.at 12 (by kernel_rfl)
              simp only [S5, ↓reduceIte, Nat.reduceEqDiff, initF, *] at a12
              have d0 : (gF 95) = .agg #[h7, r7] := hdep ⟨0, .data⟩ (by simp) rfl _ _ rfl rfl
              clear hag hdep ho
              refine ⟨fun h => by simp [bkL] at h, fun b hb hU => ?_⟩
              obtain rfl : b12 = b := by simpa [bkL] using hb
              refine relStep_off rfl ?_
              rotate_left
              have e := Option.some.inj ho
              subst e
              have a13 := hag.at 13 (by kernel_rfl)
              simp only [S5, ↓reduceIte, Nat.reduceEqDiff, initF, *] at a13
              have d5 : ∃ a, (gF 100) = .agg #[a] ∧ OwnA w9 w18.heap.size a (l ++ [⟨rid, 1⟩]) := hdep ⟨5, .data⟩ (by simp) rfl _ _ rfl rfl
              obtain ⟨a5, e5, oa5⟩ := d5
              have A5 := oa5.o
              clear hag hdep ho
              refine ⟨fun h => by simp [bkL] at h, fun b hb hU => ?_⟩
              obtain rfl : b13 = b := by simpa [bkL] using hb
              refine relStep_off rfl ?_
              rotate_left
              have e := Option.some.inj ho
              subst e
              have a14 := hag.at 14 (by kernel_rfl)
              simp only [S5, ↓reduceIte, Nat.reduceEqDiff, initF, *] at a14
              have d6 : (gF 101) = .agg #[intV rid, .int .u8 1] := hdep ⟨6, .data⟩ (by simp) rfl _ _ rfl rfl
              clear hag hdep ho
              refine ⟨fun h => by simp [bkL] at h, fun b hb hU => ?_⟩
              obtain rfl : b14 = b := by simpa [bkL] using hb
              refine relStep_off rfl ?_
              rotate_left
              · omega
              all_goals (repeat' first
    | ((with_reducible refine at_row ?_); refine row1_k (by rfl) (by decide) fun _ _ _ _ _ _ _ => ?_)
    | with_reducible first | refine alloc_k fun _ _ _ _ _ _ => ?_ | refine row_k fun _ _ _ _ _ _ => ?_ | refine fork (fun _ => ?_) fun _ => ?_ | refine forkp (fun _ => ?_) fun _ => ?_ | refine forke (fun _ => ?_) fun _ _ => ?_ | refine tail_k fun _ _ _ => ?_ | refine ext_k fun _ _ _ => ?_ | refine need_a ?_ | refine st_agg (by kernel_rfl) rfl (by simp only [natV, intV, S3, *]) fun _ _ _ _ => ?_ | refine wpd_q_a ?_
    | simp (maxDischargeDepth := 3) only [↓X, ↓Y, ↓Q, S1, ↓reduceIte, Nat.reduceEqDiff, Nat.reduceAdd, Int.reduceLT, Int.reduceLE, Int.reduceNeg, Int.reduceBEq, Int.reduceBNe, Int.reduceEq, Nat.reduceLeDiff, Nat.reduceMul, Nat.reduceLT, natV, intV, putAt, idxOk, flatP, *, replyV, replyC]
    | simp (singlePass := true) (maxDischargeDepth := 99) only [*, S2, Nat.reduceLT, replyV, replyC])
              all_goals first
                | (rename_i b10 w10 n10 k10 s10 q10; exact ⟨_, rfl, k10.2.1 _ k10.2.2.1, FR⟩)
                | (rename_i b10 w10 n10 k10 s10 q10 l10; exact ⟨_, rfl, k10.2.1 _ k10.2.2.1, FR⟩)
                | (refine appA2 ⟨rid, 1⟩ (A2.1 _ FR) (k3.2.1 _ FR) (by have := hp.out.2; have := h400.out; omega) FR (fun v' w' _ hx ho => ⟨hx, ho.more z9⟩) (fun g' cp' w' he hlt _ _ => absurd hfull.out (by rw [he]; exact full_not hlt)))
                | (exact ⟨_, rfl, d4⟩)
                | (exact stT_agg (vs := [h7, r7]) (k12.2.1 w18 FR) hU (by kernel_rfl) rfl (by simp [HH7.2.2.2.1, RR7.2.2.2.1]) fun w' hb' hc' => ⟨hc', hb'⟩)
                | (refine stT_agg (vs := [a5]) (k13.2.1 w18 FR) hU (by kernel_rfl) rfl (by simp [A5.2.2.2.1]) fun w' hb' hc' => ⟨hc', a5, hb', oa5.keep fun c hc => hc'.block c (oa5.lt c hc).2 (fun e => by have := hRB b13 (by simp); have := (oa5.lt c hc).1; omega)⟩)
                | (exact stT_agg (vs := replyC ⟨rid, 1⟩) (k14.2.1 w18 FR) hU (by kernel_rfl) rfl (replyC_one _) fun w' hb' hc' => ⟨hc', hb'⟩)
            · intro g9 w9 hx9 hR hS9 hag
              have s9 := hx9.sb
              simp only [Sb, List.mem_cons, List.not_mem_nil, or_false, forall_eq_or_imp, forall_eq] at s9
              have n9 : Now w9 := trivial
              have r9 := Ext.refl w9
              have z9 := hx9.size
              obtain ⟨vs7, d7⟩ := hS9 7 _ (by decide) rfl
              replace d7 : Blk w9 b12 36 [h7, r7] := d7
              obtain ⟨vs8, d8⟩ := hS9 8 _ (by decide) rfl
              replace d8 : ∃ a, Blk w9 b13 39 [a] ∧ OwnA w9 w18.heap.size a (l ++ [⟨rid, 1⟩]) := d8
              obtain ⟨vs9, d9⟩ := hS9 9 _ (by decide) rfl
              replace d9 : Blk w9 b14 50 (replyC ⟨rid, 1⟩) := d9
              have a12 := hag.at 12 (by kernel_rfl)
              have a13 := hag.at 13 (by kernel_rfl)
              have a14 := hag.at 14 (by kernel_rfl)
              have a36 := hag.at 36 (by kernel_rfl)
              have a39 := hag.at 39 (by kernel_rfl)
              have a50 := hag.at 50 (by kernel_rfl)
              simp only [S5, ↓reduceIte, Nat.reduceEqDiff, initF, *] at a12 a13 a14 a36 a39 a50
              clear hag hR hS9
              simp only [List.drop_succ_cons, List.drop_zero]
              obtain ⟨a8, kb8, o8⟩ := d8
              have k7' := d7.bk
              have k8' := kb8.bk
              have k9' := d9.bk
              have A8 := o8.o
              clear d7 d9 kb8 o8
              (repeat' first
    | ((with_reducible refine at_row ?_); refine row1_k (by rfl) (by decide) fun _ _ _ _ _ _ _ => ?_)
    | with_reducible first | refine alloc_k fun _ _ _ _ _ _ => ?_ | refine row_k fun _ _ _ _ _ _ => ?_ | refine fork (fun _ => ?_) fun _ => ?_ | refine forkp (fun _ => ?_) fun _ => ?_ | refine forke (fun _ => ?_) fun _ _ => ?_ | refine tail_k fun _ _ _ => ?_ | refine ext_k fun _ _ _ => ?_ | refine need_a ?_ | refine st_agg (by kernel_rfl) rfl (by simp only [natV, intV, S3, *]) fun _ _ _ _ => ?_ | refine wpd_q_a ?_
    | simp (maxDischargeDepth := 3) only [↓X, ↓Y, ↓Q, S1, ↓reduceIte, Nat.reduceEqDiff, Nat.reduceAdd, Int.reduceLT, Int.reduceLE, Int.reduceNeg, Int.reduceBEq, Int.reduceBNe, Int.reduceEq, Nat.reduceLeDiff, Nat.reduceMul, Nat.reduceLT, natV, intV, putAt, idxOk, flatP, *, replyV, replyC]
    | simp (singlePass := true) (maxDischargeDepth := 99) only [*, S2, Nat.reduceLT, replyV, replyC])
              exact ⟨_, _, rfl, ⟨_, _, rfl, (HH7.1 _ FR).more FR, (RR7.1 _ FR).more FR⟩, (A8.1 _ FR).more FR⟩
          · simp only [List.length_map] at hv2e hroom
            subst hv2e
            have hg12 : ¬ b12 = g ∧ ¬ g = b12 := by have h1 : b12 < wv2.heap.size := FR; omega
            have hg13 : ¬ b13 = g ∧ ¬ g = b13 := by have h1 : b13 < wv2.heap.size := FR; omega
            have hg14 : ¬ b14 = g ∧ ¬ g = b14 := by have h1 : b14 < wv2.heap.size := FR; omega
            have hg2 : g < w2.heap.size := A2.2.2.2.2.2.2.2 w2.heap.size (Nat.le_refl _) g rfl
            have hg8 : ¬ bx8 = g ∧ ¬ g = bx8 := by have h1 : bx8 < wv2.heap.size := FR; omega
            have hg9 : ¬ b9 = g ∧ ¬ g = b9 := by have h1 : w2.heap.size ≤ w5.heap.size := FR; omega
            have hgw : w.heap.size ≤ g := Nat.le_trans (show w.heap.size ≤ wv2.heap.size from FR) hBg
            have hgB : B ≤ g := Nat.le_trans hB hgw
            have hgh : ¬ blockOf h7 = some g := HH7.2.2.1 g FR
            have hgr : ¬ blockOf r7 = some g := RR7.2.2.1 g FR
            have hO18 := A2.1 w18 FR
            clear A2 hlen2
            have hRB : ∀ b ∈ [g, b12, b13, b14], b < w18.heap.size := by simp only [List.mem_cons, List.not_mem_nil, or_false, forall_eq_or_imp, forall_eq]; exact FR
            unfold wpdH
            refine wpd_relL 10 [g, b12, b13, b14] [(4, g), (7, b12), (8, b13), (9, b14)] rfl (fun iI v w9 => match iI with
              | 0 => v = .agg #[h7, r7]
              | 1 => v = .slice (some ⟨g, 0, none⟩) l.length cp
              | 2 => v = .agg #[intV rid, .int .u8 1]
              | 3 => ∃ b, v = .slice (some ⟨b, 0, none⟩) 1 1 ∧ Blk w9 b 50 (replyC ⟨rid, 1⟩) ∧ w18.heap.size ≤ b
              | 4 => (v = .slice (some ⟨g, 0, none⟩) (l.length + 1) cp ∧ OwnA w9 wv2.heap.size v (l ++ [⟨rid, 1⟩]))
              | 5 => v = .agg #[.slice (some ⟨g, 0, none⟩) (l.length + 1) cp]
              | 6 => v = .agg #[intV rid, .int .u8 1]
              | 7 => Blk w9 b12 36 [h7, r7]
              | 8 => Blk w9 b13 39 [.slice (some ⟨g, 0, none⟩) (l.length + 1) cp]
              | 9 => Blk w9 b14 50 (replyC ⟨rid, 1⟩)
              | _ => False) (by kernel_rfl) (by kernel_rfl) (by kernel_rfl) hRB (by simp only [List.nodup_cons, List.mem_cons, List.not_mem_nil, or_false, not_or, List.nodup_nil, not_false_eq_true, and_true]; exact FR) ?_ ?_ ?_
            · intro iI v w1 w2 hR hx9
              match iI, hR with
              | 0, h => exact h
              | 1, h => exact h
              | 2, h => exact h
              | 3, ⟨b, e, h1, h2⟩ => exact ⟨b, e, h1.tb hx9 (fun hX => by have := hRB b hX.1; omega), h2⟩
              | 4, h => exact ⟨h.1, Own.tbg h.2 hx9 (fun b hb hX => by rw [h.1] at hb; obtain rfl := Option.some.inj hb; exact hX.2 rfl)⟩
              | 5, h => exact h
              | 6, h => exact h
              | 7, h => exact h.tb hx9 (fun hX => hX.2 rfl)
              | 8, h => exact h.tb hx9 (fun hX => hX.2 rfl)
              | 9, h => exact h.tb hx9 (fun hX => hX.2 rfl)
            · intro iI oO hi ho gF w9 hx9 hdep hag
              have s9 := hx9.sb
              simp only [Sb, List.mem_cons, List.not_mem_nil, or_false, forall_eq_or_imp, forall_eq] at s9
              have n9 : Now w9 := trivial
              have r9 := Ext.refl w9
              have z9 := hx9.size
              rcases iI with _|_|_|_|_|_|_|_|_|_|iI
              have e := Option.some.inj ho
              subst e
              have a8 := hag.at 8 (by kernel_rfl)
              simp only [S5, ↓reduceIte, Nat.reduceEqDiff, initF, *] at a8
              clear hag hdep ho
              refine ⟨fun _ => ?_, fun b hb => by simp [bkL] at hb⟩
              refine relStep_off rfl ?_
              rotate_left
              have e := Option.some.inj ho
              subst e
              have a16 := hag.at 16 (by kernel_rfl)
              simp only [S5, ↓reduceIte, Nat.reduceEqDiff, initF, *] at a16
              clear hag hdep ho
              refine ⟨fun _ => ?_, fun b hb => by simp [bkL] at hb⟩
              refine relStep_off rfl ?_
              rotate_left
              have e := Option.some.inj ho
              subst e
              have a19 := hag.at 19 (by kernel_rfl)
              simp only [S5, ↓reduceIte, Nat.reduceEqDiff, initF, *] at a19
              clear hag hdep ho
              refine ⟨fun _ => ?_, fun b hb => by simp [bkL] at hb⟩
              refine relStep_off rfl ?_
              rotate_left
              have e := Option.some.inj ho
              subst e
              have d2 : (gF 97) = .agg #[intV rid, .int .u8 1] := hdep ⟨2, .data⟩ (by simp) rfl _ _ rfl rfl
              clear hag hdep ho
              refine ⟨fun _ => ?_, fun b hb => by simp [bkL] at hb⟩
              refine relStep_off rfl ?_
              rotate_left
              have e := Option.some.inj ho
              subst e
              have d1 : (gF 96) = .slice (some ⟨g, 0, none⟩) l.length cp := hdep ⟨1, .data⟩ (by simp) rfl _ _ rfl rfl
              have d3 : ∃ b, (gF 98) = .slice (some ⟨b, 0, none⟩) 1 1 ∧ Blk w9 b 50 (replyC ⟨rid, 1⟩) ∧ w18.heap.size ≤ b := hdep ⟨3, .data⟩ (by simp) rfl _ _ rfl rfl
              obtain ⟨b3, e3, hb3, q3⟩ := d3
              have k3 := hb3.bk
              have nw3 := Nw.of q3
              clear hag hdep ho
              refine ⟨fun h => by simp [bkL] at h, fun b hb hU => ?_⟩
              obtain rfl : g = b := by simpa [bkL] using hb
              refine relStep_off rfl ?_
              rotate_left
              have e := Option.some.inj ho
              subst e
              have d4 : ((gF 99) = .slice (some ⟨g, 0, none⟩) (l.length + 1) cp ∧ OwnA w9 wv2.heap.size (gF 99) (l ++ [⟨rid, 1⟩])) := hdep ⟨4, .data⟩ (by simp) rfl _ _ rfl rfl
              obtain ⟨e4, o4⟩ := d4
              clear hag hdep ho
              refine ⟨fun _ => ?_, fun b hb => by simp [bkL] at hb⟩
              refine relStep_off rfl ?_
              rotate_left
              have e := Option.some.inj ho
              subst e
              have a19 := hag.at 19 (by kernel_rfl)
              simp only [S5, ↓reduceIte, Nat.reduceEqDiff, initF, *] at a19
              clear hag hdep ho
              refine ⟨fun _ => ?_, fun b hb => by simp [bkL] at hb⟩
              refine relStep_off rfl ?_
              rotate_left
              have e := Option.some.inj ho
              subst e
              have a12 := hag.at 12 (by kernel_rfl)
              simp only [S5, ↓reduceIte, Nat.reduceEqDiff, initF, *] at a12
              have d0 : (gF 95) = .agg #[h7, r7] := hdep ⟨0, .data⟩ (by simp) rfl _ _ rfl rfl
              clear hag hdep ho
              refine ⟨fun h => by simp [bkL] at h, fun b hb hU => ?_⟩
              obtain rfl : b12 = b := by simpa [bkL] using hb
              refine relStep_off rfl ?_
              rotate_left
              have e := Option.some.inj ho
              subst e
              have a13 := hag.at 13 (by kernel_rfl)
              simp only [S5, ↓reduceIte, Nat.reduceEqDiff, initF, *] at a13
              have d5 : (gF 100) = .agg #[.slice (some ⟨g, 0, none⟩) (l.length + 1) cp] := hdep ⟨5, .data⟩ (by simp) rfl _ _ rfl rfl
              clear hag hdep ho
              refine ⟨fun h => by simp [bkL] at h, fun b hb hU => ?_⟩
              obtain rfl : b13 = b := by simpa [bkL] using hb
              refine relStep_off rfl ?_
              rotate_left
              have e := Option.some.inj ho
              subst e
              have a14 := hag.at 14 (by kernel_rfl)
              simp only [S5, ↓reduceIte, Nat.reduceEqDiff, initF, *] at a14
              have d6 : (gF 101) = .agg #[intV rid, .int .u8 1] := hdep ⟨6, .data⟩ (by simp) rfl _ _ rfl rfl
              clear hag hdep ho
              refine ⟨fun h => by simp [bkL] at h, fun b hb hU => ?_⟩
              obtain rfl : b14 = b := by simpa [bkL] using hb
              refine relStep_off rfl ?_
              rotate_left
              · omega
              all_goals (repeat' first
    | ((with_reducible refine at_row ?_); refine row1_k (by rfl) (by decide) fun _ _ _ _ _ _ _ => ?_)
    | with_reducible first | refine alloc_k fun _ _ _ _ _ _ => ?_ | refine row_k fun _ _ _ _ _ _ => ?_ | refine fork (fun _ => ?_) fun _ => ?_ | refine forkp (fun _ => ?_) fun _ => ?_ | refine forke (fun _ => ?_) fun _ _ => ?_ | refine tail_k fun _ _ _ => ?_ | refine ext_k fun _ _ _ => ?_ | refine need_a ?_ | refine st_agg (by kernel_rfl) rfl (by simp only [natV, intV, S3, *]) fun _ _ _ _ => ?_ | refine wpd_q_a ?_
    | simp (maxDischargeDepth := 3) only [↓X, ↓Y, ↓Q, S1, ↓reduceIte, Nat.reduceEqDiff, Nat.reduceAdd, Int.reduceLT, Int.reduceLE, Int.reduceNeg, Int.reduceBEq, Int.reduceBNe, Int.reduceEq, Nat.reduceLeDiff, Nat.reduceMul, Nat.reduceLT, natV, intV, putAt, idxOk, flatP, *, replyV, replyC]
    | simp (singlePass := true) (maxDischargeDepth := 99) only [*, S2, Nat.reduceLT, replyV, replyC])
              all_goals first
                | (rename_i b10 w10 n10 k10 s10 q10; exact ⟨_, rfl, k10.2.1 _ k10.2.2.1, FR⟩)
                | (rename_i b10 w10 n10 k10 s10 q10 l10; exact ⟨_, rfl, k10.2.1 _ k10.2.2.1, FR⟩)
                | (refine appA2 ⟨rid, 1⟩ (hO18.keep fun b hb => by obtain rfl := Option.some.inj hb; exact hU) (k3.2.1 _ FR) (by have := hp.out.2; have := h400.out; omega) FR (fun _ _ hf _ _ => absurd hf (full_not hroom)) (fun g' cp' w' he hlt hc ho => ?_); obtain ⟨rfl, rfl⟩ : g = g' ∧ cp = cp' := (by simpa using he); exact ⟨hc, rfl, ho⟩)
                | (exact stT_agg (vs := [h7, r7]) (k12.2.1 w18 FR) hU (by kernel_rfl) rfl (by simp [HH7.2.2.2.1, RR7.2.2.2.1]) fun w' hb' hc' => ⟨hc', hb'⟩)
                | (exact stT_agg (vs := [.slice (some ⟨g, 0, none⟩) (l.length + 1) cp]) (k13.2.1 w18 FR) hU (by kernel_rfl) rfl (by simp [one_slice]) fun w' hb' hc' => ⟨hc', hb'⟩)
                | (exact stT_agg (vs := replyC ⟨rid, 1⟩) (k14.2.1 w18 FR) hU (by kernel_rfl) rfl (replyC_one _) fun w' hb' hc' => ⟨hc', hb'⟩)
            · intro g9 w9 hx9 hR hS9 hag
              have s9 := hx9.sb
              simp only [Sb, List.mem_cons, List.not_mem_nil, or_false, forall_eq_or_imp, forall_eq] at s9
              have n9 : Now w9 := trivial
              have r9 := Ext.refl w9
              have z9 := hx9.size
              obtain ⟨vs4, d4⟩ := hS9 4 _ (by decide) rfl
              replace d4 : (vs4 = .slice (some ⟨g, 0, none⟩) (l.length + 1) cp ∧ OwnA w9 wv2.heap.size vs4 (l ++ [⟨rid, 1⟩])) := d4
              obtain ⟨vs7, d7⟩ := hS9 7 _ (by decide) rfl
              replace d7 : Blk w9 b12 36 [h7, r7] := d7
              obtain ⟨vs8, d8⟩ := hS9 8 _ (by decide) rfl
              replace d8 : Blk w9 b13 39 [.slice (some ⟨g, 0, none⟩) (l.length + 1) cp] := d8
              obtain ⟨vs9, d9⟩ := hS9 9 _ (by decide) rfl
              replace d9 : Blk w9 b14 50 (replyC ⟨rid, 1⟩) := d9
              have a12 := hag.at 12 (by kernel_rfl)
              have a13 := hag.at 13 (by kernel_rfl)
              have a14 := hag.at 14 (by kernel_rfl)
              have a36 := hag.at 36 (by kernel_rfl)
              have a39 := hag.at 39 (by kernel_rfl)
              have a50 := hag.at 50 (by kernel_rfl)
              simp only [S5, ↓reduceIte, Nat.reduceEqDiff, initF, *] at a12 a13 a14 a36 a39 a50
              clear hag hR hS9
              simp only [List.drop_succ_cons, List.drop_zero]
              have k7' := d7.bk
              have k8' := d8.bk
              have k9' := d9.bk
              have A4 := d4.2
              rw [d4.1] at A4
              have A4 := A4.o
              clear d7 d9 d8 d4
              (repeat' first
    | ((with_reducible refine at_row ?_); refine row1_k (by rfl) (by decide) fun _ _ _ _ _ _ _ => ?_)
    | with_reducible first | refine alloc_k fun _ _ _ _ _ _ => ?_ | refine row_k fun _ _ _ _ _ _ => ?_ | refine fork (fun _ => ?_) fun _ => ?_ | refine forkp (fun _ => ?_) fun _ => ?_ | refine forke (fun _ => ?_) fun _ _ => ?_ | refine tail_k fun _ _ _ => ?_ | refine ext_k fun _ _ _ => ?_ | refine need_a ?_ | refine st_agg (by kernel_rfl) rfl (by simp only [natV, intV, S3, *]) fun _ _ _ _ => ?_ | refine wpd_q_a ?_
    | simp (maxDischargeDepth := 3) only [↓X, ↓Y, ↓Q, S1, ↓reduceIte, Nat.reduceEqDiff, Nat.reduceAdd, Int.reduceLT, Int.reduceLE, Int.reduceNeg, Int.reduceBEq, Int.reduceBNe, Int.reduceEq, Nat.reduceLeDiff, Nat.reduceMul, Nat.reduceLT, natV, intV, putAt, idxOk, flatP, *, replyV, replyC]
    | simp (singlePass := true) (maxDischargeDepth := 99) only [*, S2, Nat.reduceLT, replyV, replyC])
              exact ⟨_, _, rfl, ⟨_, _, rfl, (HH7.1 _ FR).more FR, (RR7.1 _ FR).more FR⟩, (A4.1 _ FR).more FR⟩
      · have han2 : (an == 1) = false := by simpa using han1
        rw [if_neg han1]
        (repeat' first
    | ((with_reducible refine wpd_at 11 ?_); refine wpd_hold ?_)
    | ((with_reducible refine at_row ?_); refine row1_k (by rfl) (by decide) fun _ _ _ _ _ _ _ => ?_)
    | with_reducible first | refine alloc_k fun _ _ _ _ _ _ => ?_ | refine row_k fun _ _ _ _ _ _ => ?_ | refine fork (fun _ => ?_) fun _ => ?_ | refine forkp (fun _ => ?_) fun _ => ?_ | refine forke (fun _ => ?_) fun _ _ => ?_ | refine tail_k fun _ _ _ => ?_ | refine ext_k fun _ _ _ => ?_ | refine need_a ?_ | refine st_agg (by kernel_rfl) rfl (by simp only [natV, intV, S3, *]) fun _ _ _ _ => ?_ | refine wpd_q_a ?_
    | simp (maxDischargeDepth := 3) only [↓X, ↓Y, ↓Q, S1, ↓reduceIte, Nat.reduceEqDiff, Nat.reduceAdd, Int.reduceLT, Int.reduceLE, Int.reduceNeg, Int.reduceBEq, Int.reduceBNe, Int.reduceEq, Nat.reduceLeDiff, Nat.reduceMul, Nat.reduceLT, natV, intV, putAt, idxOk, flatP, *, siteC, requestV, requestC, knownV]
    | simp (singlePass := true) (maxDischargeDepth := 99) only [*, S2, Nat.reduceLT, siteC, requestV, requestC, knownV])
        rename_i b17 w17 n17 k17 s17 q17 w5 n5 k5 s5
        unfold wpdH
        refine wpd_rel2 10 (fun iI v w9 => match iI with
          | 0 => v = .pointer (some ⟨bx10, 0, none⟩)
          | 1 => v = intV rid
          | 2 => v = .agg (siteC u s).toArray
          | 3 => v = .agg #[wv]
          | 4 => v = .agg #[h6, r6]
          | 5 => v = requestV ⟨rid, rl, ⟨kd, hto, sv, vr⟩⟩
          | 6 => v = intV now
          | 7 => v = .int .u8 an
          | 8 => v = .agg #[intV rid, .int .u8 an]
          | 9 => ∃ b, v = .pointer (some ⟨b, 0, none⟩) ∧ Blk w9 b 50 [.int .i64 0, .int .u8 0] ∧ w5.heap.size ≤ b
          | _ => False) (fun iI => iI == 9) ?_ (by kernel_rfl) (by kernel_rfl) (by kernel_rfl) ?_ ?_ ?_
        · intro iI v w9 hF hR b hb
          match iI, hF, hR with
          | 0, hF, _ => exact absurd hF (by decide)
          | 1, hF, _ => exact absurd hF (by decide)
          | 2, hF, _ => exact absurd hF (by decide)
          | 3, hF, _ => exact absurd hF (by decide)
          | 4, hF, _ => exact absurd hF (by decide)
          | 5, hF, _ => exact absurd hF (by decide)
          | 6, hF, _ => exact absurd hF (by decide)
          | 7, hF, _ => exact absurd hF (by decide)
          | 8, hF, _ => exact absurd hF (by decide)
          | 9, _, ⟨b2, e, h1, _⟩ => subst e; obtain rfl := Option.some.inj hb; exact h1.lt
          | iI + 10, _, h => exact h.elim
        · intro iI v w1 w2 hR hx9
          match iI, hR with
          | 0, h => exact h
          | 1, h => exact h
          | 2, h => exact h
          | 3, h => exact h
          | 4, h => exact h
          | 5, h => exact h
          | 6, h => exact h
          | 7, h => exact h
          | 8, h => exact h
          | 9, ⟨b, e, h1, h2⟩ => exact ⟨b, e, h1.ext hx9, h2⟩
        · intro iI oO hi ho gF w9 hx9 hdep hag
          have s9 := hx9.st
          have n9 : Now w9 := trivial
          have r9 := Ext.refl w9
          have z9 := hx9.size
          rcases iI with _|_|_|_|_|_|_|_|_|_|iI
          have e := Option.some.inj ho
          subst e
          have a10 := hag.at 10 (by kernel_rfl)
          simp only [S5, ↓reduceIte, Nat.reduceEqDiff, initF, *] at a10
          clear hag hdep ho
          refine ⟨fun _ => ?_, fun hF => absurd hF (by decide)⟩
          refine relStep_off rfl ?_
          rotate_left
          have e := Option.some.inj ho
          subst e
          have d0 : (gF 74) = .pointer (some ⟨bx10, 0, none⟩) := hdep ⟨0, .data⟩ (by simp) rfl _ _ rfl rfl
          clear hag hdep ho
          refine ⟨fun _ => ?_, fun hF => absurd hF (by decide)⟩
          refine relStep_off rfl ?_
          rotate_left
          have e := Option.some.inj ho
          subst e
          have a6 := hag.at 6 (by kernel_rfl)
          simp only [S5, ↓reduceIte, Nat.reduceEqDiff, initF, *] at a6
          clear hag hdep ho
          refine ⟨fun _ => ?_, fun hF => absurd hF (by decide)⟩
          refine relStep_off rfl ?_
          rotate_left
          have e := Option.some.inj ho
          subst e
          have a7 := hag.at 7 (by kernel_rfl)
          simp only [S5, ↓reduceIte, Nat.reduceEqDiff, initF, *] at a7
          clear hag hdep ho
          refine ⟨fun _ => ?_, fun hF => absurd hF (by decide)⟩
          refine relStep_off rfl ?_
          rotate_left
          have e := Option.some.inj ho
          subst e
          have a8 := hag.at 8 (by kernel_rfl)
          simp only [S5, ↓reduceIte, Nat.reduceEqDiff, initF, *] at a8
          clear hag hdep ho
          refine ⟨fun _ => ?_, fun hF => absurd hF (by decide)⟩
          refine relStep_off rfl ?_
          rotate_left
          have e := Option.some.inj ho
          subst e
          have a10 := hag.at 10 (by kernel_rfl)
          simp only [S5, ↓reduceIte, Nat.reduceEqDiff, initF, *] at a10
          clear hag hdep ho
          refine ⟨fun _ => ?_, fun hF => absurd hF (by decide)⟩
          refine relStep_off rfl ?_
          rotate_left
          have e := Option.some.inj ho
          subst e
          have a5 := hag.at 5 (by kernel_rfl)
          simp only [S5, ↓reduceIte, Nat.reduceEqDiff, initF, *] at a5
          clear hag hdep ho
          refine ⟨fun _ => ?_, fun hF => absurd hF (by decide)⟩
          refine relStep_off rfl ?_
          rotate_left
          have e := Option.some.inj ho
          subst e
          have d2 : (gF 76) = .agg (siteC u s).toArray := hdep ⟨2, .data⟩ (by simp) rfl _ _ rfl rfl
          have d3 : (gF 77) = .agg #[wv] := hdep ⟨3, .data⟩ (by simp) rfl _ _ rfl rfl
          have d4 : (gF 78) = .agg #[h6, r6] := hdep ⟨4, .data⟩ (by simp) rfl _ _ rfl rfl
          have d5 : (gF 79) = requestV ⟨rid, rl, ⟨kd, hto, sv, vr⟩⟩ := hdep ⟨5, .data⟩ (by simp) rfl _ _ rfl rfl
          have d6 : (gF 80) = intV now := hdep ⟨6, .data⟩ (by simp) rfl _ _ rfl rfl
          clear hag hdep ho
          refine ⟨fun _ => ?_, fun hF => absurd hF (by decide)⟩
          refine relStep_off rfl ?_
          rotate_left
          have e := Option.some.inj ho
          subst e
          have d1 : (gF 75) = intV rid := hdep ⟨1, .data⟩ (by simp) rfl _ _ rfl rfl
          have d7 : (gF 81) = .int .u8 an := hdep ⟨7, .data⟩ (by simp) rfl _ _ rfl rfl
          clear hag hdep ho
          refine ⟨fun _ => ?_, fun hF => absurd hF (by decide)⟩
          refine relStep_off rfl ?_
          rotate_left
          · have e := Option.some.inj ho
            subst e
            clear hag hdep ho
            refine ⟨fun hF => absurd hF (by decide), fun _ => ?_⟩
            refine relStep_off rfl ?_
            (repeat' first
    | ((with_reducible refine at_row ?_); refine row1_k (by rfl) (by decide) fun _ _ _ _ _ _ _ => ?_)
    | with_reducible first | refine alloc_k fun _ _ _ _ _ _ => ?_ | refine row_k fun _ _ _ _ _ _ => ?_ | refine fork (fun _ => ?_) fun _ => ?_ | refine forkp (fun _ => ?_) fun _ => ?_ | refine forke (fun _ => ?_) fun _ _ => ?_ | refine tail_k fun _ _ _ => ?_ | refine ext_k fun _ _ _ => ?_ | refine need_a ?_ | refine st_agg (by kernel_rfl) rfl (by simp only [natV, intV, S3, *]) fun _ _ _ _ => ?_ | refine wpd_q_a ?_
    | ((with_reducible refine at_f 22 ?_); refine ret_k (hans.out _ FR FR FR FR) fun _ _ _ => ?_)
    | simp (maxDischargeDepth := 3) only [↓X, ↓Y, ↓Q, S1, ↓reduceIte, Nat.reduceEqDiff, Nat.reduceAdd, Int.reduceLT, Int.reduceLE, Int.reduceNeg, Int.reduceBEq, Int.reduceBNe, Int.reduceEq, Nat.reduceLeDiff, Nat.reduceMul, Nat.reduceLT, natV, intV, putAt, idxOk, flatP, *, siteC, requestV, requestC]
    | simp (singlePass := true) (maxDischargeDepth := 99) only [*, S2, Nat.reduceLT, siteC, requestV, requestC])
            first
              | (rename_i b10 w10 n10 k10 s10 q10; exact ⟨⟨_, rfl, k10.2.1 _ k10.2.2.1, FR⟩, fun b hb => by obtain rfl := Option.some.inj hb; exact FR⟩)
              | (rename_i b10 w10 n10 k10 s10 q10 l10; exact ⟨⟨_, rfl, k10.2.1 _ k10.2.2.1, FR⟩, fun b hb => by obtain rfl := Option.some.inj hb; exact FR⟩)
          · omega
          all_goals (repeat' first
    | ((with_reducible refine at_row ?_); refine row1_k (by rfl) (by decide) fun _ _ _ _ _ _ _ => ?_)
    | with_reducible first | refine alloc_k fun _ _ _ _ _ _ => ?_ | refine row_k fun _ _ _ _ _ _ => ?_ | refine fork (fun _ => ?_) fun _ => ?_ | refine forkp (fun _ => ?_) fun _ => ?_ | refine forke (fun _ => ?_) fun _ _ => ?_ | refine tail_k fun _ _ _ => ?_ | refine ext_k fun _ _ _ => ?_ | refine need_a ?_ | refine st_agg (by kernel_rfl) rfl (by simp only [natV, intV, S3, *]) fun _ _ _ _ => ?_ | refine wpd_q_a ?_
    | ((with_reducible refine at_f 22 ?_); refine ret_k (hans.out _ FR FR FR FR) fun _ _ _ => ?_)
    | simp (maxDischargeDepth := 3) only [↓X, ↓Y, ↓Q, S1, ↓reduceIte, Nat.reduceEqDiff, Nat.reduceAdd, Int.reduceLT, Int.reduceLE, Int.reduceNeg, Int.reduceBEq, Int.reduceBNe, Int.reduceEq, Nat.reduceLeDiff, Nat.reduceMul, Nat.reduceLT, natV, intV, putAt, idxOk, flatP, *, siteC, requestV, requestC]
    | simp (singlePass := true) (maxDischargeDepth := 99) only [*, S2, Nat.reduceLT, siteC, requestV, requestC])
        · intro g9 w9 hx9 hR hDis hag
          have s9 := hx9.st
          have n9 : Now w9 := trivial
          have r9 := Ext.refl w9
          have z9 := hx9.size
          have d8 : (g9 82) = .agg #[intV rid, .int .u8 an] := hR 8 _ _ (by decide) rfl rfl
          have d9 : ∃ b, (g9 19) = .pointer (some ⟨b, 0, none⟩) ∧ Blk w9 b 50 [.int .i64 0, .int .u8 0] ∧ w5.heap.size ≤ b := hR 9 _ _ (by decide) rfl rfl
          obtain ⟨b9, e9, hb9, q9⟩ := d9
          have k9 := hb9.bk
          have nw9 := Nw.of q9
          have a6 := hag.at 6 (by kernel_rfl)
          have a7 := hag.at 7 (by kernel_rfl)
          have a8 := hag.at 8 (by kernel_rfl)
          have a10 := hag.at 10 (by kernel_rfl)
          have a12 := hag.at 12 (by kernel_rfl)
          have a13 := hag.at 13 (by kernel_rfl)
          have a14 := hag.at 14 (by kernel_rfl)
          have a16 := hag.at 16 (by kernel_rfl)
          have a36 := hag.at 36 (by kernel_rfl)
          have a39 := hag.at 39 (by kernel_rfl)
          have a50 := hag.at 50 (by kernel_rfl)
          simp only [S5, ↓reduceIte, Nat.reduceEqDiff, initF, *] at a6 a7 a8 a10 a12 a13 a14 a16 a36 a39 a50
          clear hag hR hDis
          simp only [List.drop_succ_cons, List.drop_zero]
          have HH7 := H6
          have RR7 := R6
          clear H6 R6 hap
          (repeat' first
    | ((with_reducible refine wpd_at 14 ?_); refine wpd_hold ?_)
    | ((with_reducible refine at_row ?_); refine row1_k (by rfl) (by decide) fun _ _ _ _ _ _ _ => ?_)
    | with_reducible first | refine alloc_k fun _ _ _ _ _ _ => ?_ | refine row_k fun _ _ _ _ _ _ => ?_ | refine fork (fun _ => ?_) fun _ => ?_ | refine forkp (fun _ => ?_) fun _ => ?_ | refine forke (fun _ => ?_) fun _ _ => ?_ | refine tail_k fun _ _ _ => ?_ | refine ext_k fun _ _ _ => ?_ | refine need_a ?_ | refine st_agg (by kernel_rfl) rfl (by simp only [natV, intV, S3, *]) fun _ _ _ _ => ?_ | refine wpd_q_a ?_
    | simp (maxDischargeDepth := 3) only [↓X, ↓Y, ↓Q, S1, ↓reduceIte, Nat.reduceEqDiff, Nat.reduceAdd, Int.reduceLT, Int.reduceLE, Int.reduceNeg, Int.reduceBEq, Int.reduceBNe, Int.reduceEq, Nat.reduceLeDiff, Nat.reduceMul, Nat.reduceLT, natV, intV, putAt, idxOk, flatP, *, siteC, requestV, requestC]
    | simp (singlePass := true) (maxDischargeDepth := 99) only [*, S2, Nat.reduceLT, siteC, requestV, requestC])
          rename_i w18 n18 k18 s18
          rcases (A2.1 w18 FR).room with hfull | ⟨g, cp, hv2e, hroom, hBg, hgl⟩
          · replace hfull : Hid _ := hfull
            have hRB : ∀ b ∈ [b12, b13, b14], b < w18.heap.size := by simp only [List.mem_cons, List.not_mem_nil, or_false, forall_eq_or_imp, forall_eq]; exact FR
            unfold wpdH
            refine wpd_relL 10 [b12, b13, b14] [(7, b12), (8, b13), (9, b14)] rfl (fun iI v w9 => match iI with
              | 0 => v = .agg #[h6, r6]
              | 1 => v = v2
              | 2 => v = .agg #[intV rid, .int .u8 an]
              | 3 => ∃ b, v = .slice (some ⟨b, 0, none⟩) 1 1 ∧ Blk w9 b 50 (replyC ⟨rid, an⟩) ∧ w18.heap.size ≤ b
              | 4 => OwnA w9 w18.heap.size v (l ++ [⟨rid, an⟩])
              | 5 => ∃ a, v = .agg #[a] ∧ OwnA w9 w18.heap.size a (l ++ [⟨rid, an⟩])
              | 6 => v = .agg #[intV rid, .int .u8 an]
              | 7 => Blk w9 b12 36 [h6, r6]
              | 8 => ∃ a, Blk w9 b13 39 [a] ∧ OwnA w9 w18.heap.size a (l ++ [⟨rid, an⟩])
              | 9 => Blk w9 b14 50 (replyC ⟨rid, an⟩)
              | _ => False) (by kernel_rfl) (by kernel_rfl) (by kernel_rfl) hRB (by simp only [List.nodup_cons, List.mem_cons, List.not_mem_nil, or_false, not_or, List.nodup_nil, not_false_eq_true, and_true]; exact FR) ?_ ?_ ?_
            · intro iI v w1 w2 hR hx9
              match iI, hR with
              | 0, h => exact h
              | 1, h => exact h
              | 2, h => exact h
              | 3, ⟨b, e, h1, h2⟩ => exact ⟨b, e, h1.tb hx9 (fun hX => by have := hRB b hX.1; omega), h2⟩
              | 4, h => exact Own.tb h hx9 (fun b hb => hRB b hb.1)
              | 5, h => exact (let ⟨a, e, o⟩ := h; ⟨a, e, Own.tb o hx9 (fun b hb => hRB b hb.1)⟩)
              | 6, h => exact h
              | 7, h => exact h.tb hx9 (fun hX => hX.2 rfl)
              | 8, h => exact (let ⟨a, k, o1⟩ := h; ⟨a, k.tb hx9 (fun hX => hX.2 rfl), Own.tb o1 hx9 (fun b hb => hRB b hb.1)⟩)
              | 9, h => exact h.tb hx9 (fun hX => hX.2 rfl)
            · intro iI oO hi ho gF w9 hx9 hdep hag
              have s9 := hx9.sb
              simp only [Sb, List.mem_cons, List.not_mem_nil, or_false, forall_eq_or_imp, forall_eq] at s9
              have n9 : Now w9 := trivial
              have r9 := Ext.refl w9
              have z9 := hx9.size
              rcases iI with _|_|_|_|_|_|_|_|_|_|iI
              have e := Option.some.inj ho
              subst e
              have a8 := hag.at 8 (by kernel_rfl)
              simp only [S5, ↓reduceIte, Nat.reduceEqDiff, initF, *] at a8
              clear hag hdep ho
              refine ⟨fun _ => ?_, fun b hb => by simp [bkL] at hb⟩
              refine relStep_off rfl ?_
              rotate_left
              have e := Option.some.inj ho
              subst e
              have a16 := hag.at 16 (by kernel_rfl)
              simp only [S5, ↓reduceIte, Nat.reduceEqDiff, initF, *] at a16
              clear hag hdep ho
              refine ⟨fun _ => ?_, fun b hb => by simp [bkL] at hb⟩
              refine relStep_off rfl ?_
              rotate_left
              have e := Option.some.inj ho
              subst e
              have a19 := hag.at 19 (by kernel_rfl)
              simp only [S5, ↓reduceIte, Nat.reduceEqDiff, initF, *] at a19
              clear hag hdep ho
              refine ⟨fun _ => ?_, fun b hb => by simp [bkL] at hb⟩
              refine relStep_off rfl ?_
              rotate_left
              have e := Option.some.inj ho
              subst e
              have d2 : (gF 97) = .agg #[intV rid, .int .u8 an] := hdep ⟨2, .data⟩ (by simp) rfl _ _ rfl rfl
              clear hag hdep ho
              refine ⟨fun _ => ?_, fun b hb => by simp [bkL] at hb⟩
              refine relStep_off rfl ?_
              rotate_left
              have e := Option.some.inj ho
              subst e
              have d1 : (gF 96) = v2 := hdep ⟨1, .data⟩ (by simp) rfl _ _ rfl rfl
              have d3 : ∃ b, (gF 98) = .slice (some ⟨b, 0, none⟩) 1 1 ∧ Blk w9 b 50 (replyC ⟨rid, an⟩) ∧ w18.heap.size ≤ b := hdep ⟨3, .data⟩ (by simp) rfl _ _ rfl rfl
              obtain ⟨b3, e3, hb3, q3⟩ := d3
              have k3 := hb3.bk
              have nw3 := Nw.of q3
              clear hag hdep ho
              refine ⟨fun _ => ?_, fun b hb => by simp [bkL] at hb⟩
              refine relStep_off rfl ?_
              rotate_left
              have e := Option.some.inj ho
              subst e
              have d4 : OwnA w9 w18.heap.size (gF 99) (l ++ [⟨rid, an⟩]) := hdep ⟨4, .data⟩ (by simp) rfl _ _ rfl rfl
              have A4 := d4.o
              clear hag hdep ho
              refine ⟨fun _ => ?_, fun b hb => by simp [bkL] at hb⟩
              refine relStep_off rfl ?_
              rotate_left
              have e := Option.some.inj ho
              subst e
              have a19 := hag.at 19 (by kernel_rfl)
              simp only [S5, ↓reduceIte, Nat.reduceEqDiff, initF, *] at a19
              clear hag hdep ho
              refine ⟨fun _ => ?_, fun b hb => by simp [bkL] at hb⟩
              refine relStep_off rfl ?_
              rotate_left
              have e := Option.some.inj ho
              subst e
              have a12 := hag.at 12 (by kernel_rfl)
              simp only [S5, ↓reduceIte, Nat.reduceEqDiff, initF, *] at a12
              have d0 : (gF 95) = .agg #[h6, r6] := hdep ⟨0, .data⟩ (by simp) rfl _ _ rfl rfl
              clear hag hdep ho
              refine ⟨fun h => by simp [bkL] at h, fun b hb hU => ?_⟩
              obtain rfl : b12 = b := by simpa [bkL] using hb
              refine relStep_off rfl ?_
              rotate_left
              have e := Option.some.inj ho
              subst e
              have a13 := hag.at 13 (by kernel_rfl)
              simp only [S5, ↓reduceIte, Nat.reduceEqDiff, initF, *] at a13
              have d5 : ∃ a, (gF 100) = .agg #[a] ∧ OwnA w9 w18.heap.size a (l ++ [⟨rid, an⟩]) := hdep ⟨5, .data⟩ (by simp) rfl _ _ rfl rfl
              obtain ⟨a5, e5, oa5⟩ := d5
              have A5 := oa5.o
              clear hag hdep ho
              refine ⟨fun h => by simp [bkL] at h, fun b hb hU => ?_⟩
              obtain rfl : b13 = b := by simpa [bkL] using hb
              refine relStep_off rfl ?_
              rotate_left
              have e := Option.some.inj ho
              subst e
              have a14 := hag.at 14 (by kernel_rfl)
              simp only [S5, ↓reduceIte, Nat.reduceEqDiff, initF, *] at a14
              have d6 : (gF 101) = .agg #[intV rid, .int .u8 an] := hdep ⟨6, .data⟩ (by simp) rfl _ _ rfl rfl
              clear hag hdep ho
              refine ⟨fun h => by simp [bkL] at h, fun b hb hU => ?_⟩
              obtain rfl : b14 = b := by simpa [bkL] using hb
              refine relStep_off rfl ?_
              rotate_left
              · omega
              all_goals (repeat' first
    | ((with_reducible refine at_row ?_); refine row1_k (by rfl) (by decide) fun _ _ _ _ _ _ _ => ?_)
    | with_reducible first | refine alloc_k fun _ _ _ _ _ _ => ?_ | refine row_k fun _ _ _ _ _ _ => ?_ | refine fork (fun _ => ?_) fun _ => ?_ | refine forkp (fun _ => ?_) fun _ => ?_ | refine forke (fun _ => ?_) fun _ _ => ?_ | refine tail_k fun _ _ _ => ?_ | refine ext_k fun _ _ _ => ?_ | refine need_a ?_ | refine st_agg (by kernel_rfl) rfl (by simp only [natV, intV, S3, *]) fun _ _ _ _ => ?_ | refine wpd_q_a ?_
    | simp (maxDischargeDepth := 3) only [↓X, ↓Y, ↓Q, S1, ↓reduceIte, Nat.reduceEqDiff, Nat.reduceAdd, Int.reduceLT, Int.reduceLE, Int.reduceNeg, Int.reduceBEq, Int.reduceBNe, Int.reduceEq, Nat.reduceLeDiff, Nat.reduceMul, Nat.reduceLT, natV, intV, putAt, idxOk, flatP, *, replyV, replyC]
    | simp (singlePass := true) (maxDischargeDepth := 99) only [*, S2, Nat.reduceLT, replyV, replyC])
              all_goals first
                | (rename_i b10 w10 n10 k10 s10 q10; exact ⟨_, rfl, k10.2.1 _ k10.2.2.1, FR⟩)
                | (rename_i b10 w10 n10 k10 s10 q10 l10; exact ⟨_, rfl, k10.2.1 _ k10.2.2.1, FR⟩)
                | (refine appA2 ⟨rid, an⟩ (A2.1 _ FR) (k3.2.1 _ FR) (by have := hp.out.2; have := h400.out; omega) FR (fun v' w' _ hx ho => ⟨hx, ho.more z9⟩) (fun g' cp' w' he hlt _ _ => absurd hfull.out (by rw [he]; exact full_not hlt)))
                | (exact ⟨_, rfl, d4⟩)
                | (exact stT_agg (vs := [h6, r6]) (k12.2.1 w18 FR) hU (by kernel_rfl) rfl (by simp [HH7.2.2.2.1, RR7.2.2.2.1]) fun w' hb' hc' => ⟨hc', hb'⟩)
                | (refine stT_agg (vs := [a5]) (k13.2.1 w18 FR) hU (by kernel_rfl) rfl (by simp [A5.2.2.2.1]) fun w' hb' hc' => ⟨hc', a5, hb', oa5.keep fun c hc => hc'.block c (oa5.lt c hc).2 (fun e => by have := hRB b13 (by simp); have := (oa5.lt c hc).1; omega)⟩)
                | (exact stT_agg (vs := replyC ⟨rid, an⟩) (k14.2.1 w18 FR) hU (by kernel_rfl) rfl (replyC_one _) fun w' hb' hc' => ⟨hc', hb'⟩)
            · intro g9 w9 hx9 hR hS9 hag
              have s9 := hx9.sb
              simp only [Sb, List.mem_cons, List.not_mem_nil, or_false, forall_eq_or_imp, forall_eq] at s9
              have n9 : Now w9 := trivial
              have r9 := Ext.refl w9
              have z9 := hx9.size
              obtain ⟨vs7, d7⟩ := hS9 7 _ (by decide) rfl
              replace d7 : Blk w9 b12 36 [h6, r6] := d7
              obtain ⟨vs8, d8⟩ := hS9 8 _ (by decide) rfl
              replace d8 : ∃ a, Blk w9 b13 39 [a] ∧ OwnA w9 w18.heap.size a (l ++ [⟨rid, an⟩]) := d8
              obtain ⟨vs9, d9⟩ := hS9 9 _ (by decide) rfl
              replace d9 : Blk w9 b14 50 (replyC ⟨rid, an⟩) := d9
              have a12 := hag.at 12 (by kernel_rfl)
              have a13 := hag.at 13 (by kernel_rfl)
              have a14 := hag.at 14 (by kernel_rfl)
              have a36 := hag.at 36 (by kernel_rfl)
              have a39 := hag.at 39 (by kernel_rfl)
              have a50 := hag.at 50 (by kernel_rfl)
              simp only [S5, ↓reduceIte, Nat.reduceEqDiff, initF, *] at a12 a13 a14 a36 a39 a50
              clear hag hR hS9
              simp only [List.drop_succ_cons, List.drop_zero]
              obtain ⟨a8, kb8, o8⟩ := d8
              have k7' := d7.bk
              have k8' := kb8.bk
              have k9' := d9.bk
              have A8 := o8.o
              clear d7 d9 kb8 o8
              (repeat' first
    | ((with_reducible refine at_row ?_); refine row1_k (by rfl) (by decide) fun _ _ _ _ _ _ _ => ?_)
    | with_reducible first | refine alloc_k fun _ _ _ _ _ _ => ?_ | refine row_k fun _ _ _ _ _ _ => ?_ | refine fork (fun _ => ?_) fun _ => ?_ | refine forkp (fun _ => ?_) fun _ => ?_ | refine forke (fun _ => ?_) fun _ _ => ?_ | refine tail_k fun _ _ _ => ?_ | refine ext_k fun _ _ _ => ?_ | refine need_a ?_ | refine st_agg (by kernel_rfl) rfl (by simp only [natV, intV, S3, *]) fun _ _ _ _ => ?_ | refine wpd_q_a ?_
    | simp (maxDischargeDepth := 3) only [↓X, ↓Y, ↓Q, S1, ↓reduceIte, Nat.reduceEqDiff, Nat.reduceAdd, Int.reduceLT, Int.reduceLE, Int.reduceNeg, Int.reduceBEq, Int.reduceBNe, Int.reduceEq, Nat.reduceLeDiff, Nat.reduceMul, Nat.reduceLT, natV, intV, putAt, idxOk, flatP, *, replyV, replyC]
    | simp (singlePass := true) (maxDischargeDepth := 99) only [*, S2, Nat.reduceLT, replyV, replyC])
              exact ⟨_, _, rfl, ⟨_, _, rfl, (HH7.1 _ FR).more FR, (RR7.1 _ FR).more FR⟩, (A8.1 _ FR).more FR⟩
          · simp only [List.length_map] at hv2e hroom
            subst hv2e
            have hg12 : ¬ b12 = g ∧ ¬ g = b12 := by have h1 : b12 < wv2.heap.size := FR; omega
            have hg13 : ¬ b13 = g ∧ ¬ g = b13 := by have h1 : b13 < wv2.heap.size := FR; omega
            have hg14 : ¬ b14 = g ∧ ¬ g = b14 := by have h1 : b14 < wv2.heap.size := FR; omega
            have hg2 : g < w2.heap.size := A2.2.2.2.2.2.2.2 w2.heap.size (Nat.le_refl _) g rfl
            have hg8 : ¬ bx8 = g ∧ ¬ g = bx8 := by have h1 : bx8 < wv2.heap.size := FR; omega
            have hg9 : ¬ b9 = g ∧ ¬ g = b9 := by have h1 : w2.heap.size ≤ w5.heap.size := FR; omega
            have hgw : w.heap.size ≤ g := Nat.le_trans (show w.heap.size ≤ wv2.heap.size from FR) hBg
            have hgB : B ≤ g := Nat.le_trans hB hgw
            have hgh : ¬ blockOf h6 = some g := HH7.2.2.1 g FR
            have hgr : ¬ blockOf r6 = some g := RR7.2.2.1 g FR
            have hO18 := A2.1 w18 FR
            clear A2 hlen2
            have hRB : ∀ b ∈ [g, b12, b13, b14], b < w18.heap.size := by simp only [List.mem_cons, List.not_mem_nil, or_false, forall_eq_or_imp, forall_eq]; exact FR
            unfold wpdH
            refine wpd_relL 10 [g, b12, b13, b14] [(4, g), (7, b12), (8, b13), (9, b14)] rfl (fun iI v w9 => match iI with
              | 0 => v = .agg #[h6, r6]
              | 1 => v = .slice (some ⟨g, 0, none⟩) l.length cp
              | 2 => v = .agg #[intV rid, .int .u8 an]
              | 3 => ∃ b, v = .slice (some ⟨b, 0, none⟩) 1 1 ∧ Blk w9 b 50 (replyC ⟨rid, an⟩) ∧ w18.heap.size ≤ b
              | 4 => (v = .slice (some ⟨g, 0, none⟩) (l.length + 1) cp ∧ OwnA w9 wv2.heap.size v (l ++ [⟨rid, an⟩]))
              | 5 => v = .agg #[.slice (some ⟨g, 0, none⟩) (l.length + 1) cp]
              | 6 => v = .agg #[intV rid, .int .u8 an]
              | 7 => Blk w9 b12 36 [h6, r6]
              | 8 => Blk w9 b13 39 [.slice (some ⟨g, 0, none⟩) (l.length + 1) cp]
              | 9 => Blk w9 b14 50 (replyC ⟨rid, an⟩)
              | _ => False) (by kernel_rfl) (by kernel_rfl) (by kernel_rfl) hRB (by simp only [List.nodup_cons, List.mem_cons, List.not_mem_nil, or_false, not_or, List.nodup_nil, not_false_eq_true, and_true]; exact FR) ?_ ?_ ?_
            · intro iI v w1 w2 hR hx9
              match iI, hR with
              | 0, h => exact h
              | 1, h => exact h
              | 2, h => exact h
              | 3, ⟨b, e, h1, h2⟩ => exact ⟨b, e, h1.tb hx9 (fun hX => by have := hRB b hX.1; omega), h2⟩
              | 4, h => exact ⟨h.1, Own.tbg h.2 hx9 (fun b hb hX => by rw [h.1] at hb; obtain rfl := Option.some.inj hb; exact hX.2 rfl)⟩
              | 5, h => exact h
              | 6, h => exact h
              | 7, h => exact h.tb hx9 (fun hX => hX.2 rfl)
              | 8, h => exact h.tb hx9 (fun hX => hX.2 rfl)
              | 9, h => exact h.tb hx9 (fun hX => hX.2 rfl)
            · intro iI oO hi ho gF w9 hx9 hdep hag
              have s9 := hx9.sb
              simp only [Sb, List.mem_cons, List.not_mem_nil, or_false, forall_eq_or_imp, forall_eq] at s9
              have n9 : Now w9 := trivial
              have r9 := Ext.refl w9
              have z9 := hx9.size
              rcases iI with _|_|_|_|_|_|_|_|_|_|iI
              have e := Option.some.inj ho
              subst e
              have a8 := hag.at 8 (by kernel_rfl)
              simp only [S5, ↓reduceIte, Nat.reduceEqDiff, initF, *] at a8
              clear hag hdep ho
              refine ⟨fun _ => ?_, fun b hb => by simp [bkL] at hb⟩
              refine relStep_off rfl ?_
              rotate_left
              have e := Option.some.inj ho
              subst e
              have a16 := hag.at 16 (by kernel_rfl)
              simp only [S5, ↓reduceIte, Nat.reduceEqDiff, initF, *] at a16
              clear hag hdep ho
              refine ⟨fun _ => ?_, fun b hb => by simp [bkL] at hb⟩
              refine relStep_off rfl ?_
              rotate_left
              have e := Option.some.inj ho
              subst e
              have a19 := hag.at 19 (by kernel_rfl)
              simp only [S5, ↓reduceIte, Nat.reduceEqDiff, initF, *] at a19
              clear hag hdep ho
              refine ⟨fun _ => ?_, fun b hb => by simp [bkL] at hb⟩
              refine relStep_off rfl ?_
              rotate_left
              have e := Option.some.inj ho
              subst e
              have d2 : (gF 97) = .agg #[intV rid, .int .u8 an] := hdep ⟨2, .data⟩ (by simp) rfl _ _ rfl rfl
              clear hag hdep ho
              refine ⟨fun _ => ?_, fun b hb => by simp [bkL] at hb⟩
              refine relStep_off rfl ?_
              rotate_left
              have e := Option.some.inj ho
              subst e
              have d1 : (gF 96) = .slice (some ⟨g, 0, none⟩) l.length cp := hdep ⟨1, .data⟩ (by simp) rfl _ _ rfl rfl
              have d3 : ∃ b, (gF 98) = .slice (some ⟨b, 0, none⟩) 1 1 ∧ Blk w9 b 50 (replyC ⟨rid, an⟩) ∧ w18.heap.size ≤ b := hdep ⟨3, .data⟩ (by simp) rfl _ _ rfl rfl
              obtain ⟨b3, e3, hb3, q3⟩ := d3
              have k3 := hb3.bk
              have nw3 := Nw.of q3
              clear hag hdep ho
              refine ⟨fun h => by simp [bkL] at h, fun b hb hU => ?_⟩
              obtain rfl : g = b := by simpa [bkL] using hb
              refine relStep_off rfl ?_
              rotate_left
              have e := Option.some.inj ho
              subst e
              have d4 : ((gF 99) = .slice (some ⟨g, 0, none⟩) (l.length + 1) cp ∧ OwnA w9 wv2.heap.size (gF 99) (l ++ [⟨rid, an⟩])) := hdep ⟨4, .data⟩ (by simp) rfl _ _ rfl rfl
              obtain ⟨e4, o4⟩ := d4
              clear hag hdep ho
              refine ⟨fun _ => ?_, fun b hb => by simp [bkL] at hb⟩
              refine relStep_off rfl ?_
              rotate_left
              have e := Option.some.inj ho
              subst e
              have a19 := hag.at 19 (by kernel_rfl)
              simp only [S5, ↓reduceIte, Nat.reduceEqDiff, initF, *] at a19
              clear hag hdep ho
              refine ⟨fun _ => ?_, fun b hb => by simp [bkL] at hb⟩
              refine relStep_off rfl ?_
              rotate_left
              have e := Option.some.inj ho
              subst e
              have a12 := hag.at 12 (by kernel_rfl)
              simp only [S5, ↓reduceIte, Nat.reduceEqDiff, initF, *] at a12
              have d0 : (gF 95) = .agg #[h6, r6] := hdep ⟨0, .data⟩ (by simp) rfl _ _ rfl rfl
              clear hag hdep ho
              refine ⟨fun h => by simp [bkL] at h, fun b hb hU => ?_⟩
              obtain rfl : b12 = b := by simpa [bkL] using hb
              refine relStep_off rfl ?_
              rotate_left
              have e := Option.some.inj ho
              subst e
              have a13 := hag.at 13 (by kernel_rfl)
              simp only [S5, ↓reduceIte, Nat.reduceEqDiff, initF, *] at a13
              have d5 : (gF 100) = .agg #[.slice (some ⟨g, 0, none⟩) (l.length + 1) cp] := hdep ⟨5, .data⟩ (by simp) rfl _ _ rfl rfl
              clear hag hdep ho
              refine ⟨fun h => by simp [bkL] at h, fun b hb hU => ?_⟩
              obtain rfl : b13 = b := by simpa [bkL] using hb
              refine relStep_off rfl ?_
              rotate_left
              have e := Option.some.inj ho
              subst e
              have a14 := hag.at 14 (by kernel_rfl)
              simp only [S5, ↓reduceIte, Nat.reduceEqDiff, initF, *] at a14
              have d6 : (gF 101) = .agg #[intV rid, .int .u8 an] := hdep ⟨6, .data⟩ (by simp) rfl _ _ rfl rfl
              clear hag hdep ho
              refine ⟨fun h => by simp [bkL] at h, fun b hb hU => ?_⟩
              obtain rfl : b14 = b := by simpa [bkL] using hb
              refine relStep_off rfl ?_
              rotate_left
              · omega
              all_goals (repeat' first
    | ((with_reducible refine at_row ?_); refine row1_k (by rfl) (by decide) fun _ _ _ _ _ _ _ => ?_)
    | with_reducible first | refine alloc_k fun _ _ _ _ _ _ => ?_ | refine row_k fun _ _ _ _ _ _ => ?_ | refine fork (fun _ => ?_) fun _ => ?_ | refine forkp (fun _ => ?_) fun _ => ?_ | refine forke (fun _ => ?_) fun _ _ => ?_ | refine tail_k fun _ _ _ => ?_ | refine ext_k fun _ _ _ => ?_ | refine need_a ?_ | refine st_agg (by kernel_rfl) rfl (by simp only [natV, intV, S3, *]) fun _ _ _ _ => ?_ | refine wpd_q_a ?_
    | simp (maxDischargeDepth := 3) only [↓X, ↓Y, ↓Q, S1, ↓reduceIte, Nat.reduceEqDiff, Nat.reduceAdd, Int.reduceLT, Int.reduceLE, Int.reduceNeg, Int.reduceBEq, Int.reduceBNe, Int.reduceEq, Nat.reduceLeDiff, Nat.reduceMul, Nat.reduceLT, natV, intV, putAt, idxOk, flatP, *, replyV, replyC]
    | simp (singlePass := true) (maxDischargeDepth := 99) only [*, S2, Nat.reduceLT, replyV, replyC])
              all_goals first
                | (rename_i b10 w10 n10 k10 s10 q10; exact ⟨_, rfl, k10.2.1 _ k10.2.2.1, FR⟩)
                | (rename_i b10 w10 n10 k10 s10 q10 l10; exact ⟨_, rfl, k10.2.1 _ k10.2.2.1, FR⟩)
                | (refine appA2 ⟨rid, an⟩ (hO18.keep fun b hb => by obtain rfl := Option.some.inj hb; exact hU) (k3.2.1 _ FR) (by have := hp.out.2; have := h400.out; omega) FR (fun _ _ hf _ _ => absurd hf (full_not hroom)) (fun g' cp' w' he hlt hc ho => ?_); obtain ⟨rfl, rfl⟩ : g = g' ∧ cp = cp' := (by simpa using he); exact ⟨hc, rfl, ho⟩)
                | (exact stT_agg (vs := [h6, r6]) (k12.2.1 w18 FR) hU (by kernel_rfl) rfl (by simp [HH7.2.2.2.1, RR7.2.2.2.1]) fun w' hb' hc' => ⟨hc', hb'⟩)
                | (exact stT_agg (vs := [.slice (some ⟨g, 0, none⟩) (l.length + 1) cp]) (k13.2.1 w18 FR) hU (by kernel_rfl) rfl (by simp [one_slice]) fun w' hb' hc' => ⟨hc', hb'⟩)
                | (exact stT_agg (vs := replyC ⟨rid, an⟩) (k14.2.1 w18 FR) hU (by kernel_rfl) rfl (replyC_one _) fun w' hb' hc' => ⟨hc', hb'⟩)
            · intro g9 w9 hx9 hR hS9 hag
              have s9 := hx9.sb
              simp only [Sb, List.mem_cons, List.not_mem_nil, or_false, forall_eq_or_imp, forall_eq] at s9
              have n9 : Now w9 := trivial
              have r9 := Ext.refl w9
              have z9 := hx9.size
              obtain ⟨vs4, d4⟩ := hS9 4 _ (by decide) rfl
              replace d4 : (vs4 = .slice (some ⟨g, 0, none⟩) (l.length + 1) cp ∧ OwnA w9 wv2.heap.size vs4 (l ++ [⟨rid, an⟩])) := d4
              obtain ⟨vs7, d7⟩ := hS9 7 _ (by decide) rfl
              replace d7 : Blk w9 b12 36 [h6, r6] := d7
              obtain ⟨vs8, d8⟩ := hS9 8 _ (by decide) rfl
              replace d8 : Blk w9 b13 39 [.slice (some ⟨g, 0, none⟩) (l.length + 1) cp] := d8
              obtain ⟨vs9, d9⟩ := hS9 9 _ (by decide) rfl
              replace d9 : Blk w9 b14 50 (replyC ⟨rid, an⟩) := d9
              have a12 := hag.at 12 (by kernel_rfl)
              have a13 := hag.at 13 (by kernel_rfl)
              have a14 := hag.at 14 (by kernel_rfl)
              have a36 := hag.at 36 (by kernel_rfl)
              have a39 := hag.at 39 (by kernel_rfl)
              have a50 := hag.at 50 (by kernel_rfl)
              simp only [S5, ↓reduceIte, Nat.reduceEqDiff, initF, *] at a12 a13 a14 a36 a39 a50
              clear hag hR hS9
              simp only [List.drop_succ_cons, List.drop_zero]
              have k7' := d7.bk
              have k8' := d8.bk
              have k9' := d9.bk
              have A4 := d4.2
              rw [d4.1] at A4
              have A4 := A4.o
              clear d7 d9 d8 d4
              (repeat' first
    | ((with_reducible refine at_row ?_); refine row1_k (by rfl) (by decide) fun _ _ _ _ _ _ _ => ?_)
    | with_reducible first | refine alloc_k fun _ _ _ _ _ _ => ?_ | refine row_k fun _ _ _ _ _ _ => ?_ | refine fork (fun _ => ?_) fun _ => ?_ | refine forkp (fun _ => ?_) fun _ => ?_ | refine forke (fun _ => ?_) fun _ _ => ?_ | refine tail_k fun _ _ _ => ?_ | refine ext_k fun _ _ _ => ?_ | refine need_a ?_ | refine st_agg (by kernel_rfl) rfl (by simp only [natV, intV, S3, *]) fun _ _ _ _ => ?_ | refine wpd_q_a ?_
    | simp (maxDischargeDepth := 3) only [↓X, ↓Y, ↓Q, S1, ↓reduceIte, Nat.reduceEqDiff, Nat.reduceAdd, Int.reduceLT, Int.reduceLE, Int.reduceNeg, Int.reduceBEq, Int.reduceBNe, Int.reduceEq, Nat.reduceLeDiff, Nat.reduceMul, Nat.reduceLT, natV, intV, putAt, idxOk, flatP, *, replyV, replyC]
    | simp (singlePass := true) (maxDischargeDepth := 99) only [*, S2, Nat.reduceLT, replyV, replyC])
              exact ⟨_, _, rfl, ⟨_, _, rfl, (HH7.1 _ FR).more FR, (RR7.1 _ FR).more FR⟩, (A4.1 _ FR).more FR⟩
  · obtain rfl := hg.out.1 p hko
    clear hg hko
    (repeat' first
    | ((with_reducible refine wpd_at 8 ?_); refine wpd_hold ?_)
    | ((with_reducible refine at_row ?_); refine row1_k (by rfl) (by decide) fun _ _ _ _ _ _ _ => ?_)
    | with_reducible first | refine alloc_k fun _ _ _ _ _ _ => ?_ | refine row_k fun _ _ _ _ _ _ => ?_ | refine fork (fun _ => ?_) fun _ => ?_ | refine forkp (fun _ => ?_) fun _ => ?_ | refine forke (fun _ => ?_) fun _ _ => ?_ | refine tail_k fun _ _ _ => ?_ | refine ext_k fun _ _ _ => ?_ | refine need_a ?_ | refine st_agg (by kernel_rfl) rfl (by simp only [natV, intV, S3, *]) fun _ _ _ _ => ?_ | refine wpd_q_a ?_
    | simp (maxDischargeDepth := 3) only [↓X, ↓Y, ↓Q, S1, ↓reduceIte, Nat.reduceEqDiff, Nat.reduceAdd, Int.reduceLT, Int.reduceLE, Int.reduceNeg, Int.reduceBEq, Int.reduceBNe, Int.reduceEq, Nat.reduceLeDiff, Nat.reduceMul, Nat.reduceLT, natV, intV, putAt, idxOk, flatP, *, siteC, requestV, requestC, knownV, replyV, replyC]
    | simp (singlePass := true) (maxDischargeDepth := 99) only [*, S2, Nat.reduceLT, siteC, requestV, requestC, knownV, replyV, replyC])
    rename_i b17 w17 n17 k17 s17 q17 w5 n5 k5 s5
    have hRB : ∀ b ∈ [b12, b13, b14], b < w5.heap.size := by simp only [List.mem_cons, List.not_mem_nil, or_false, forall_eq_or_imp, forall_eq]; exact FR
    unfold wpdH
    refine wpd_relL 7 [b12, b13, b14] [(4, b12), (5, b13), (6, b14)] rfl (fun iI v w9 => match iI with
      | 0 => v = .agg #[h6, r6]
      | 1 => v = v2
      | 2 => v = .agg #[v2]
      | 3 => v = replyV p
      | 4 => Blk w9 b12 36 [h6, r6]
      | 5 => Blk w9 b13 39 [v2]
      | 6 => Blk w9 b14 50 (replyC p)
      | _ => False) (by kernel_rfl) (by kernel_rfl) (by kernel_rfl) hRB (by simp only [List.nodup_cons, List.mem_cons, List.not_mem_nil, or_false, not_or, List.nodup_nil, not_false_eq_true, and_true]; exact FR) ?_ ?_ ?_
    · intro iI v w1 w2 hR hx9
      match iI, hR with
      | 0, h => exact h
      | 1, h => exact h
      | 2, h => exact h
      | 3, h => exact h
      | 4, h => exact h.tb hx9 (fun hX => hX.2 rfl)
      | 5, h => exact h.tb hx9 (fun hX => hX.2 rfl)
      | 6, h => exact h.tb hx9 (fun hX => hX.2 rfl)
    · intro iI oO hi ho gF w9 hx9 hdep hag
      have s9 := hx9.sb
      simp only [Sb, List.mem_cons, List.not_mem_nil, or_false, forall_eq_or_imp, forall_eq] at s9
      have n9 : Now w9 := trivial
      have r9 := Ext.refl w9
      have z9 := hx9.size
      rcases iI with _|_|_|_|_|_|_|iI
      have e := Option.some.inj ho
      subst e
      have a8 := hag.at 8 (by kernel_rfl)
      simp only [S5, ↓reduceIte, Nat.reduceEqDiff, initF, *] at a8
      clear hag hdep ho
      refine ⟨fun _ => ?_, fun b hb => by simp [bkL] at hb⟩
      refine relStep_off rfl ?_
      rotate_left
      have e := Option.some.inj ho
      subst e
      have a16 := hag.at 16 (by kernel_rfl)
      simp only [S5, ↓reduceIte, Nat.reduceEqDiff, initF, *] at a16
      clear hag hdep ho
      refine ⟨fun _ => ?_, fun b hb => by simp [bkL] at hb⟩
      refine relStep_off rfl ?_
      rotate_left
      have e := Option.some.inj ho
      subst e
      have d1 : (gF 65) = v2 := hdep ⟨1, .data⟩ (by simp) rfl _ _ rfl rfl
      clear hag hdep ho
      refine ⟨fun _ => ?_, fun b hb => by simp [bkL] at hb⟩
      refine relStep_off rfl ?_
      rotate_left
      have e := Option.some.inj ho
      subst e
      have a17 := hag.at 17 (by kernel_rfl)
      simp only [S5, ↓reduceIte, Nat.reduceEqDiff, initF, *] at a17
      clear hag hdep ho
      refine ⟨fun _ => ?_, fun b hb => by simp [bkL] at hb⟩
      refine relStep_off rfl ?_
      rotate_left
      have e := Option.some.inj ho
      subst e
      have a12 := hag.at 12 (by kernel_rfl)
      simp only [S5, ↓reduceIte, Nat.reduceEqDiff, initF, *] at a12
      have d0 : (gF 64) = .agg #[h6, r6] := hdep ⟨0, .data⟩ (by simp) rfl _ _ rfl rfl
      clear hag hdep ho
      refine ⟨fun h => by simp [bkL] at h, fun b hb hU => ?_⟩
      obtain rfl : b12 = b := by simpa [bkL] using hb
      refine relStep_off rfl ?_
      rotate_left
      have e := Option.some.inj ho
      subst e
      have a13 := hag.at 13 (by kernel_rfl)
      simp only [S5, ↓reduceIte, Nat.reduceEqDiff, initF, *] at a13
      have d2 : (gF 66) = .agg #[v2] := hdep ⟨2, .data⟩ (by simp) rfl _ _ rfl rfl
      clear hag hdep ho
      refine ⟨fun h => by simp [bkL] at h, fun b hb hU => ?_⟩
      obtain rfl : b13 = b := by simpa [bkL] using hb
      refine relStep_off rfl ?_
      rotate_left
      have e := Option.some.inj ho
      subst e
      have a14 := hag.at 14 (by kernel_rfl)
      simp only [S5, ↓reduceIte, Nat.reduceEqDiff, initF, *] at a14
      have d3 : (gF 67) = replyV p := hdep ⟨3, .data⟩ (by simp) rfl _ _ rfl rfl
      clear hag hdep ho
      refine ⟨fun h => by simp [bkL] at h, fun b hb hU => ?_⟩
      obtain rfl : b14 = b := by simpa [bkL] using hb
      refine relStep_off rfl ?_
      rotate_left
      · omega
      all_goals (repeat' first
    | ((with_reducible refine at_row ?_); refine row1_k (by rfl) (by decide) fun _ _ _ _ _ _ _ => ?_)
    | with_reducible first | refine alloc_k fun _ _ _ _ _ _ => ?_ | refine row_k fun _ _ _ _ _ _ => ?_ | refine fork (fun _ => ?_) fun _ => ?_ | refine forkp (fun _ => ?_) fun _ => ?_ | refine forke (fun _ => ?_) fun _ _ => ?_ | refine tail_k fun _ _ _ => ?_ | refine ext_k fun _ _ _ => ?_ | refine need_a ?_ | refine st_agg (by kernel_rfl) rfl (by simp only [natV, intV, S3, *]) fun _ _ _ _ => ?_ | refine wpd_q_a ?_
    | simp (maxDischargeDepth := 3) only [↓X, ↓Y, ↓Q, S1, ↓reduceIte, Nat.reduceEqDiff, Nat.reduceAdd, Int.reduceLT, Int.reduceLE, Int.reduceNeg, Int.reduceBEq, Int.reduceBNe, Int.reduceEq, Nat.reduceLeDiff, Nat.reduceMul, Nat.reduceLT, natV, intV, putAt, idxOk, flatP, *, replyV, replyC]
    | simp (singlePass := true) (maxDischargeDepth := 99) only [*, S2, Nat.reduceLT, replyV, replyC])
      all_goals first
        | (exact stT_agg (vs := [h6, r6]) (k12.2.1 w5 FR) hU (by kernel_rfl) rfl (by simp [H6.2.2.2.1, R6.2.2.2.1]) fun w' hb' hc' => ⟨hc', hb'⟩)
        | (exact stT_agg (vs := [v2]) (k13.2.1 w5 FR) hU (by kernel_rfl) rfl (by simp [A2.2.2.2.1]) fun w' hb' hc' => ⟨hc', hb'⟩)
        | (exact stT_agg (vs := replyC p) (k14.2.1 w5 FR) hU (by kernel_rfl) rfl (replyC_one _) fun w' hb' hc' => ⟨hc', hb'⟩)
    · intro g9 w9 hx9 hR hS9 hag
      have s9 := hx9.sb
      simp only [Sb, List.mem_cons, List.not_mem_nil, or_false, forall_eq_or_imp, forall_eq] at s9
      have n9 : Now w9 := trivial
      have r9 := Ext.refl w9
      have z9 := hx9.size
      obtain ⟨vs4, d4⟩ := hS9 4 _ (by decide) rfl
      replace d4 : Blk w9 b12 36 [h6, r6] := d4
      obtain ⟨vs5, d5⟩ := hS9 5 _ (by decide) rfl
      replace d5 : Blk w9 b13 39 [v2] := d5
      obtain ⟨vs6, d6⟩ := hS9 6 _ (by decide) rfl
      replace d6 : Blk w9 b14 50 (replyC p) := d6
      have a12 := hag.at 12 (by kernel_rfl)
      have a13 := hag.at 13 (by kernel_rfl)
      have a14 := hag.at 14 (by kernel_rfl)
      have a36 := hag.at 36 (by kernel_rfl)
      have a39 := hag.at 39 (by kernel_rfl)
      have a50 := hag.at 50 (by kernel_rfl)
      simp only [S5, ↓reduceIte, Nat.reduceEqDiff, initF, *] at a12 a13 a14 a36 a39 a50
      clear hag hR hS9
      simp only [List.drop_succ_cons, List.drop_zero]
      have k4 := d4.bk
      have k5' := d5.bk
      have k6 := d6.bk
      clear d4 d5 d6
      (repeat' first
    | ((with_reducible refine at_row ?_); refine row1_k (by rfl) (by decide) fun _ _ _ _ _ _ _ => ?_)
    | with_reducible first | refine alloc_k fun _ _ _ _ _ _ => ?_ | refine row_k fun _ _ _ _ _ _ => ?_ | refine fork (fun _ => ?_) fun _ => ?_ | refine forkp (fun _ => ?_) fun _ => ?_ | refine forke (fun _ => ?_) fun _ _ => ?_ | refine tail_k fun _ _ _ => ?_ | refine ext_k fun _ _ _ => ?_ | refine need_a ?_ | refine st_agg (by kernel_rfl) rfl (by simp only [natV, intV, S3, *]) fun _ _ _ _ => ?_ | refine wpd_q_a ?_
    | simp (maxDischargeDepth := 3) only [↓X, ↓Y, ↓Q, S1, ↓reduceIte, Nat.reduceEqDiff, Nat.reduceAdd, Int.reduceLT, Int.reduceLE, Int.reduceNeg, Int.reduceBEq, Int.reduceBNe, Int.reduceEq, Nat.reduceLeDiff, Nat.reduceMul, Nat.reduceLT, natV, intV, putAt, idxOk, flatP, *, replyV, replyC]
    | simp (singlePass := true) (maxDischargeDepth := 99) only [*, S2, Nat.reduceLT, replyV, replyC])
      exact ⟨_, _, rfl, ⟨_, _, rfl, (H6.1 _ FR).more FR, (R6.1 _ FR).more FR⟩, (A2.1 _ FR).more FR⟩
end
end Go.Proofs.YtblegjdogmcgbaaGreat
