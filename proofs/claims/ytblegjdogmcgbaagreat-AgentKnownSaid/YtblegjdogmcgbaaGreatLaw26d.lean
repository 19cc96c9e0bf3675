
/- The statement AgentKnown. -/
import Derived.Test.YtblegjdogmcgbaaGreatLaw26a
import Derived.Test.YtblegjdogmcgbaaGreatAgent4
namespace Go.Proofs.YtblegjdogmcgbaaGreat
set_option linter.unusedSimpArgs false
set_option linter.unusedVariables false
open Go Go.RowKit
set_option maxRecDepth 100000
set_option linter.unusedSectionVars false
set_option maxHeartbeats 4000000
def worldExF : WorldD := ⟨[⟨4, 0⟩, ⟨0, 0⟩, ⟨0, 0⟩], [⟨0, 2⟩]⟩
theorem kn26_one : handleD siteEx26 [srvEx1, srvEx2] worldEx [] ⟨8, 20, ⟨1, 0, 0, 0⟩⟩ 0 = ⟨worldEx, [⟨8, 3⟩], ⟨8, 3⟩, 0⟩ := by kernel_rfl
theorem kn26_failE : failE siteEx26 [srvEx1, srvEx2] worldEx 0 = 0 := by kernel_rfl
theorem kn26_failW : failW siteEx26 [srvEx1, srvEx2] worldEx 0 = worldExF := by kernel_rfl
theorem kn26_fail2 : failE siteEx26 [srvEx1, srvEx2] worldExF 0 = 8 := by kernel_rfl
theorem kn26_fail3 : failE siteEx26 [srvEx1, srvEx2] worldEx 3 = 1 := by kernel_rfl
theorem kn26_two : handleD siteEx26 [srvEx1, srvEx2] worldExF [] ⟨9, 20, ⟨2, 0, 1, 0⟩⟩ 99 = ⟨worldExF, [⟨9, 4⟩], ⟨9, 4⟩, 0⟩ := by kernel_rfl
theorem kn26_a : handleD siteEx26 [srvEx1, srvEx2] worldEx [] ⟨0, 20, ⟨1, 1, 0, 0⟩⟩ 0 = ⟨noW, [], ⟨0, 0⟩, 1⟩ := by kernel_rfl
theorem kn26_b : handleD siteEx26 [srvEx1, srvEx2] worldEx [] ⟨1, -1, ⟨1, 1, 0, 0⟩⟩ 0 = ⟨noW, [], ⟨0, 0⟩, 1⟩ := by kernel_rfl
theorem kn26_c : handleD siteEx26 [srvEx1, srvEx2] worldEx [] ⟨1, 5, ⟨1, 1, 0, 0⟩⟩ (-1) = ⟨noW, [], ⟨0, 0⟩, 1⟩ := by kernel_rfl
theorem kn26_d : handleD siteEx26 [srvEx1, srvEx2] worldEx (List.replicate 400 ⟨0, 0⟩) ⟨1, 5, ⟨1, 1, 0, 0⟩⟩ 0 = ⟨noW, [], ⟨0, 0⟩, 9⟩ := by kernel_rfl
theorem lawAgentKnown {w : World} : Ret Tryz.prog 7 #[] w (.bool true) := by
  have hn : Now w := trivial
  have hx : Ext w w := Ext.refl w
  (refine callsV_of Tryz.func7 rfl (by kernel_rfl) (by kernel_rfl) ?_; rw [Tryz.results7])
  (repeat' first
    | ((with_reducible refine at_row ?_); refine row1_k (by rfl) (by decide) fun _ _ _ _ _ _ _ => ?_)
    | with_reducible first | refine alloc_k fun _ _ _ _ _ _ => ?_ | refine row_k fun _ _ _ _ _ _ => ?_ | refine fork (fun _ => ?_) fun _ => ?_ | refine forkp (fun _ => ?_) fun _ => ?_ | refine forke (fun _ => ?_) fun _ _ => ?_ | refine tail_k fun _ _ _ => ?_ | refine ext_k fun _ _ _ => ?_ | refine need_a ?_ | refine st_agg (by kernel_rfl) rfl (by simp only [natV, intV, S3, *]) fun _ _ _ _ => ?_ | refine wpd_q_a ?_
    | simp (maxDischargeDepth := 3) only [↓X, ↓Y, ↓Q, S1, ↓reduceIte, Nat.reduceEqDiff, Nat.reduceAdd, Int.reduceLT, Int.reduceLE, Int.reduceNeg, Int.reduceBEq, Int.reduceBNe, Int.reduceEq, Nat.reduceLeDiff, Nat.reduceMul, Nat.reduceLT, natV, intV, putAt, idxOk, flatP, *]
    | simp (singlePass := true) (maxDischargeDepth := 99) only [*, S2, Nat.reduceLT])
  refine call_k law26small ?_
  rintro _ w1 n1 s1 ⟨u, wv, sl, hv, rv, rfl, hs, hl, hsl, hx0⟩
  have S0 := hs.sk (Nat.le_refl _)
  have W0 := hl.sk (Nat.le_refl _)
  have X0 := hx0.sk (Nat.le_refl _)
  have hS := S0.2.2.2.2.2.2
  have hW := W0.2.2
  have hX := X0.2.2.2.2
  clear hs hl hx0
  (repeat' first
    | ((with_reducible refine wpd_at 2 ?_); refine wpd_hold ?_)
    | ((with_reducible refine at_row ?_); refine row1_k (by rfl) (by decide) fun _ _ _ _ _ _ _ => ?_)
    | with_reducible first | refine alloc_k fun _ _ _ _ _ _ => ?_ | refine row_k fun _ _ _ _ _ _ => ?_ | refine fork (fun _ => ?_) fun _ => ?_ | refine forkp (fun _ => ?_) fun _ => ?_ | refine forke (fun _ => ?_) fun _ _ => ?_ | refine tail_k fun _ _ _ => ?_ | refine ext_k fun _ _ _ => ?_ | refine need_a ?_ | refine st_agg (by kernel_rfl) rfl (by simp only [natV, intV, S3, *]) fun _ _ _ _ => ?_ | refine wpd_q_a ?_
    | simp (maxDischargeDepth := 3) only [↓X, ↓Y, ↓Q, S1, ↓reduceIte, Nat.reduceEqDiff, Nat.reduceAdd, Int.reduceLT, Int.reduceLE, Int.reduceNeg, Int.reduceBEq, Int.reduceBNe, Int.reduceEq, Nat.reduceLeDiff, Nat.reduceMul, Nat.reduceLT, natV, intV, putAt, idxOk, flatP, *, siteC]
    | simp (singlePass := true) (maxDischargeDepth := 99) only [*, S2, Nat.reduceLT, siteC])
  rename_i t1 v1 m1 r1 p1 y1 t2 v2 m2 r2 p2 y2 t3 v3 m3 r3 p3 y3 wa na ka sa wb nb kb sb wc nc kc sc
  unfold wpdH
  refine wpd_relS 17 [(14, 11), (15, 12), (16, 13)] (fun iI s v w9 => match iI with
    | 0 => v = .agg (siteC u siteEx26).toArray
    | 1 => v = .agg #[wv]
    | 2 => v = .agg #[hv, rv]
    | 3 => v = .agg #[.slice none 0 0]
    | 4 => v = requestV ⟨8, 20, ⟨1, 0, 0, 0⟩⟩
    | 5 => HandR wc.heap.size v w9 ⟨worldEx, [⟨8, 3⟩], ⟨8, 3⟩, 0⟩
    | 6 => HandR wc.heap.size v w9 ⟨worldEx, [⟨8, 3⟩], ⟨8, 3⟩, 0⟩
    | 7 => OwnW wc.heap.size v w9 worldEx
    | 8 => ∃ a, v = .agg #[a] ∧ OwnA w9 wc.heap.size a [⟨8, 3⟩]
    | 9 => v = replyV ⟨8, 3⟩
    | 10 => v = intV 0
    | 11 => ∃ b, v = .pointer (some ⟨b, 0, none⟩) ∧ wc.heap.size ≤ b ∧ (s = false → Blk w9 b 36 [.slice none 0 0, .slice none 0 0]) ∧ (s = true → ∃ h r, Blk w9 b 36 [h, r] ∧ OwnH w9 wc.heap.size h worldEx.hosts ∧ OwnP w9 wc.heap.size r worldEx.replicas)
    | 12 => ∃ b, v = .pointer (some ⟨b, 0, none⟩) ∧ wc.heap.size ≤ b ∧ (s = false → Blk w9 b 39 [.slice none 0 0]) ∧ (s = true → ∃ a, Blk w9 b 39 [a] ∧ OwnA w9 wc.heap.size a [⟨8, 3⟩])
    | 13 => ∃ b, v = .pointer (some ⟨b, 0, none⟩) ∧ wc.heap.size ≤ b ∧ (s = false → Blk w9 b 50 [intV 0, .int .u8 0]) ∧ (s = true → Blk w9 b 50 [intV 8, .int .u8 3])
    | 14 => True
    | 15 => True
    | 16 => True
    | _ => False) (by kernel_rfl) (by kernel_rfl) (by kernel_rfl) (by kernel_rfl) ?_ ?_ ?_
  · intro iI s v w1 w2 hR hx9
    match iI, hR with
    | 0, h => exact h
    | 1, h => exact h
    | 2, h => exact h
    | 3, h => exact h
    | 4, h => exact h
    | 5, h => exact HandR.ext h hx9
    | 6, h => exact HandR.ext h hx9
    | 7, h => exact OwnW.ext h hx9
    | 8, h => exact (let ⟨a, e, k⟩ := h; ⟨a, e, k.ext hx9⟩)
    | 9, h => exact h
    | 10, h => exact h
    | 11, ⟨b, e, h1, h2, h3⟩ => exact ⟨b, e, h1, fun hs => (h2 hs).ext hx9, fun hs => (fun h => (let ⟨a, b, k, o1, o2⟩ := h; ⟨a, b, k.ext hx9, o1.ext hx9, o2.ext hx9⟩)) (h3 hs)⟩
    | 12, ⟨b, e, h1, h2, h3⟩ => exact ⟨b, e, h1, fun hs => (h2 hs).ext hx9, fun hs => (fun h => (let ⟨a, k, o1⟩ := h; ⟨a, k.ext hx9, o1.ext hx9⟩)) (h3 hs)⟩
    | 13, ⟨b, e, h1, h2, h3⟩ => exact ⟨b, e, h1, fun hs => (h2 hs).ext hx9, fun hs => (fun h => h.ext hx9) (h3 hs)⟩
    | 14, h => exact h
    | 15, h => exact h
    | 16, h => exact h
  · intro iI oO hi ho gF w9 S9 hx9 hdep hag
    have s9 := hx9.st
    have n9 : Now w9 := trivial
    have r9 := Ext.refl w9
    have z9 := hx9.size
    rcases iI with _|_|_|_|_|_|_|_|_|_|_|_|_|_|_|_|_|iI
    have e := Option.some.inj ho
    subst e
    have a1 := hag.at 1 (by kernel_rfl)
    simp only [S5, ↓reduceIte, Nat.reduceEqDiff, initF, *] at a1
    clear hag hdep ho
    refine ⟨fun _ => ?_, fun a9 pa da hal => by simp [alL] at hal⟩
    refine relStep_off rfl ?_
    rotate_left
    have e := Option.some.inj ho
    subst e
    have a2 := hag.at 2 (by kernel_rfl)
    simp only [S5, ↓reduceIte, Nat.reduceEqDiff, initF, *] at a2
    clear hag hdep ho
    refine ⟨fun _ => ?_, fun a9 pa da hal => by simp [alL] at hal⟩
    refine relStep_off rfl ?_
    rotate_left
    have e := Option.some.inj ho
    subst e
    have a3 := hag.at 3 (by kernel_rfl)
    simp only [S5, ↓reduceIte, Nat.reduceEqDiff, initF, *] at a3
    clear hag hdep ho
    refine ⟨fun _ => ?_, fun a9 pa da hal => by simp [alL] at hal⟩
    refine relStep_off rfl ?_
    rotate_left
    have e := Option.some.inj ho
    subst e
    clear hag hdep ho
    refine ⟨fun _ => ?_, fun a9 pa da hal => by simp [alL] at hal⟩
    refine relStep_off rfl ?_
    rotate_left
    have e := Option.some.inj ho
    subst e
    clear hag hdep ho
    refine ⟨fun _ => ?_, fun a9 pa da hal => by simp [alL] at hal⟩
    refine relStep_off rfl ?_
    rotate_left
    have e := Option.some.inj ho
    subst e
    have d0 : (gF 42) = .agg (siteC u siteEx26).toArray := hdep ⟨0, .data⟩ (by simp) rfl _ _ rfl rfl
    have d1 : (gF 43) = .agg #[wv] := hdep ⟨1, .data⟩ (by simp) rfl _ _ rfl rfl
    have d2 : (gF 44) = .agg #[hv, rv] := hdep ⟨2, .data⟩ (by simp) rfl _ _ rfl rfl
    have d3 : (gF 45) = .agg #[.slice none 0 0] := hdep ⟨3, .data⟩ (by simp) rfl _ _ rfl rfl
    have d4 : (gF 46) = requestV ⟨8, 20, ⟨1, 0, 0, 0⟩⟩ := hdep ⟨4, .data⟩ (by simp) rfl _ _ rfl rfl
    clear hag hdep ho
    refine ⟨fun _ => ?_, fun a9 pa da hal => by simp [alL] at hal⟩
    refine relStep_off rfl ?_
    rotate_left
    have e := Option.some.inj ho
    subst e
    have d5 : HandR wc.heap.size (gF 47) w9 ⟨worldEx, [⟨8, 3⟩], ⟨8, 3⟩, 0⟩ := hdep ⟨5, .data⟩ (by simp) rfl _ _ rfl rfl
    clear hag hdep ho
    refine ⟨fun _ => ?_, fun a9 pa da hal => by simp [alL] at hal⟩
    refine relStep_off rfl ?_
    rotate_left
    have e := Option.some.inj ho
    subst e
    have d6 : HandR wc.heap.size (gF 41) w9 ⟨worldEx, [⟨8, 3⟩], ⟨8, 3⟩, 0⟩ := hdep ⟨6, .data⟩ (by simp) rfl _ _ rfl rfl
    obtain ⟨v6, a6, e6, o6, oa6⟩ := d6
    clear hag hdep ho
    refine ⟨fun _ => ?_, fun a9 pa da hal => by simp [alL] at hal⟩
    refine relStep_off rfl ?_
    rotate_left
    have e := Option.some.inj ho
    subst e
    have d6 : HandR wc.heap.size (gF 41) w9 ⟨worldEx, [⟨8, 3⟩], ⟨8, 3⟩, 0⟩ := hdep ⟨6, .data⟩ (by simp) rfl _ _ rfl rfl
    obtain ⟨v6, a6, e6, o6, oa6⟩ := d6
    clear hag hdep ho
    refine ⟨fun _ => ?_, fun a9 pa da hal => by simp [alL] at hal⟩
    refine relStep_off rfl ?_
    rotate_left
    have e := Option.some.inj ho
    subst e
    have d6 : HandR wc.heap.size (gF 41) w9 ⟨worldEx, [⟨8, 3⟩], ⟨8, 3⟩, 0⟩ := hdep ⟨6, .data⟩ (by simp) rfl _ _ rfl rfl
    obtain ⟨v6, a6, e6, o6, oa6⟩ := d6
    clear hag hdep ho
    refine ⟨fun _ => ?_, fun a9 pa da hal => by simp [alL] at hal⟩
    refine relStep_off rfl ?_
    rotate_left
    have e := Option.some.inj ho
    subst e
    have d6 : HandR wc.heap.size (gF 41) w9 ⟨worldEx, [⟨8, 3⟩], ⟨8, 3⟩, 0⟩ := hdep ⟨6, .data⟩ (by simp) rfl _ _ rfl rfl
    obtain ⟨v6, a6, e6, o6, oa6⟩ := d6
    clear hag hdep ho
    refine ⟨fun _ => ?_, fun a9 pa da hal => by simp [alL] at hal⟩
    refine relStep_off rfl ?_
    rotate_left
    have e := Option.some.inj ho
    subst e
    clear hag hdep ho
    refine ⟨fun _ => ?_, fun a9 pa da hal => by simp [alL] at hal⟩
    refine relStep_off rfl ?_
    rotate_left
    have e := Option.some.inj ho
    subst e
    clear hag hdep ho
    refine ⟨fun _ => ?_, fun a9 pa da hal => by simp [alL] at hal⟩
    refine relStep_off rfl ?_
    rotate_left
    have e := Option.some.inj ho
    subst e
    clear hag hdep ho
    refine ⟨fun _ => ?_, fun a9 pa da hal => by simp [alL] at hal⟩
    refine relStep_off rfl ?_
    rotate_left
    have e := Option.some.inj ho
    subst e
    have d11 : ∃ b, (gF 4) = .pointer (some ⟨b, 0, none⟩) ∧ wc.heap.size ≤ b ∧ ((S9 11) = false → Blk w9 b 36 [.slice none 0 0, .slice none 0 0]) ∧ ((S9 11) = true → ∃ h r, Blk w9 b 36 [h, r] ∧ OwnH w9 wc.heap.size h worldEx.hosts ∧ OwnP w9 wc.heap.size r worldEx.replicas) := hdep ⟨11, .data⟩ (by simp) rfl _ _ rfl rfl
    obtain ⟨b11, e11, q11, hz11, _⟩ := d11
    have d7 : OwnW wc.heap.size (gF 48) w9 worldEx := hdep ⟨7, .data⟩ (by simp) rfl _ _ rfl rfl
    obtain ⟨h7, r7, e7, oh7, or7⟩ := d7
    have H7 := oh7.one
    have R7 := or7.one
    clear hag hdep ho
    refine ⟨fun h => by simp [alL] at h, fun a9 pa da hal hS9 hpa hda => ?_⟩
    obtain rfl : 11 = a9 := by simpa [alL] using hal
    obtain rfl := Option.some.inj hpa
    obtain rfl := Option.some.inj hda
    have hz := hz11 hS9
    clear hal hpa hda hz11
    refine relStep_off rfl ?_
    rotate_left
    have e := Option.some.inj ho
    subst e
    have d12 : ∃ b, (gF 5) = .pointer (some ⟨b, 0, none⟩) ∧ wc.heap.size ≤ b ∧ ((S9 12) = false → Blk w9 b 39 [.slice none 0 0]) ∧ ((S9 12) = true → ∃ a, Blk w9 b 39 [a] ∧ OwnA w9 wc.heap.size a [⟨8, 3⟩]) := hdep ⟨12, .data⟩ (by simp) rfl _ _ rfl rfl
    obtain ⟨b12, e12, q12, hz12, _⟩ := d12
    have d8 : ∃ a, (gF 49) = .agg #[a] ∧ OwnA w9 wc.heap.size a [⟨8, 3⟩] := hdep ⟨8, .data⟩ (by simp) rfl _ _ rfl rfl
    obtain ⟨a8, e8, oa8⟩ := d8
    have A8 := oa8.one
    clear hag hdep ho
    refine ⟨fun h => by simp [alL] at h, fun a9 pa da hal hS9 hpa hda => ?_⟩
    obtain rfl : 12 = a9 := by simpa [alL] using hal
    obtain rfl := Option.some.inj hpa
    obtain rfl := Option.some.inj hda
    have hz := hz12 hS9
    clear hal hpa hda hz12
    refine relStep_off rfl ?_
    rotate_left
    have e := Option.some.inj ho
    subst e
    have d13 : ∃ b, (gF 6) = .pointer (some ⟨b, 0, none⟩) ∧ wc.heap.size ≤ b ∧ ((S9 13) = false → Blk w9 b 50 [intV 0, .int .u8 0]) ∧ ((S9 13) = true → Blk w9 b 50 [intV 8, .int .u8 3]) := hdep ⟨13, .data⟩ (by simp) rfl _ _ rfl rfl
    obtain ⟨b13, e13, q13, hz13, _⟩ := d13
    have d9 : (gF 50) = replyV ⟨8, 3⟩ := hdep ⟨9, .data⟩ (by simp) rfl _ _ rfl rfl
    clear hag hdep ho
    refine ⟨fun h => by simp [alL] at h, fun a9 pa da hal hS9 hpa hda => ?_⟩
    obtain rfl : 13 = a9 := by simpa [alL] using hal
    obtain rfl := Option.some.inj hpa
    obtain rfl := Option.some.inj hda
    have hz := hz13 hS9
    clear hal hpa hda hz13
    refine relStep_off rfl ?_
    rotate_left
    · omega
    all_goals (repeat' first
    | ((with_reducible refine at_row ?_); refine row1_k (by rfl) (by decide) fun _ _ _ _ _ _ _ => ?_)
    | with_reducible first | refine alloc_k fun _ _ _ _ _ _ => ?_ | refine row_k fun _ _ _ _ _ _ => ?_ | refine fork (fun _ => ?_) fun _ => ?_ | refine forkp (fun _ => ?_) fun _ => ?_ | refine forke (fun _ => ?_) fun _ _ => ?_ | refine tail_k fun _ _ _ => ?_ | refine ext_k fun _ _ _ => ?_ | refine need_a ?_ | refine st_agg (by kernel_rfl) rfl (by simp only [natV, intV, S3, *]) fun _ _ _ _ => ?_ | refine wpd_q_a ?_
    | ((with_reducible refine at_f 26 ?_); refine ret_k (law26starts (id := 8) (lease := 20) (service := 0) (host := 0)) fun _ _ _ => ?_)
    | simp (maxDischargeDepth := 3) only [↓X, ↓Y, ↓Q, S1, ↓reduceIte, Nat.reduceEqDiff, Nat.reduceAdd, Int.reduceLT, Int.reduceLE, Int.reduceNeg, Int.reduceBEq, Int.reduceBNe, Int.reduceEq, Nat.reduceLeDiff, Nat.reduceMul, Nat.reduceLT, natV, intV, putAt, idxOk, flatP, *, siteC]
    | simp (singlePass := true) (maxDischargeDepth := 99) only [*, S2, Nat.reduceLT, siteC])
    all_goals first
      | (refine hand26 ⟨8, 20, ⟨1, 0, 0, 0⟩⟩ n9 hsl (hS _ FR) (hW _ FR) (hX _ FR) z9 (Sl.nil _ 0 _ _) kn26_one FR FR FR (Nat.zero_le _) (by decide))
      | (exact d5)
      | (exact o6)
      | (exact ⟨_, rfl, oa6⟩)
      | (rename_i b10 w10 n10 k10 s10 q10; exact ⟨_, rfl, FR, fun _ => k10.2.1 _ k10.2.2.1, fun h => absurd h (by decide)⟩)
      | (refine stT_agg (w0 := w9) (vs := [h7, r7]) hz rfl (by kernel_rfl) rfl (by simp [H7, R7]) fun w10 hb10 hc => ⟨b11, hc, q11, ⟨b11, (by first | exact e11 | rfl), q11, fun h => absurd h (by decide), fun _ => ⟨h7, r7, hb10, oh7.fra hz hc, or7.fra hz hc⟩⟩, ?_⟩
         intro iI s v hne hR
         match iI, hR with
         | 0, h | 1, h | 2, h | 3, h | 4, h | 9, h | 10, h | 14, h | 15, h | 16, h => exact h
         | 5, h => exact HandR.fr h hz hc
         | 6, h => exact HandR.fr h hz hc
         | 7, h => exact OwnW.fr h hz hc
         | 8, h => exact (let ⟨a, e, k⟩ := h; ⟨a, e, k.fra hz hc⟩)
         | 11, _ => exact absurd rfl hne
         | 12, ⟨b, e, h1, h2, h3⟩ => exact ⟨b, e, h1, fun hs => Blk.fr (h2 hs) hz hc (by first | exact .inl (by decide) | exact .inr (by simp [natV, intV])), fun hs => (fun h => (let ⟨a, k, o1⟩ := h; ⟨a, k.fra hz hc, o1.fra hz hc⟩)) (h3 hs)⟩
         | 13, ⟨b, e, h1, h2, h3⟩ => exact ⟨b, e, h1, fun hs => Blk.fr (h2 hs) hz hc (by first | exact .inl (by decide) | exact .inr (by simp [natV, intV])), fun hs => (fun h => h.fra hz hc) (h3 hs)⟩)
      | (refine stT_agg (w0 := w9) (vs := [a8]) hz rfl (by kernel_rfl) rfl (by simp [A8]) fun w10 hb10 hc => ⟨b12, hc, q12, ⟨b12, (by first | exact e12 | rfl), q12, fun h => absurd h (by decide), fun _ => ⟨a8, hb10, oa8.fra hz hc⟩⟩, ?_⟩
         intro iI s v hne hR
         match iI, hR with
         | 0, h | 1, h | 2, h | 3, h | 4, h | 9, h | 10, h | 14, h | 15, h | 16, h => exact h
         | 5, h => exact HandR.fr h hz hc
         | 6, h => exact HandR.fr h hz hc
         | 7, h => exact OwnW.fr h hz hc
         | 8, h => exact (let ⟨a, e, k⟩ := h; ⟨a, e, k.fra hz hc⟩)
         | 11, ⟨b, e, h1, h2, h3⟩ => exact ⟨b, e, h1, fun hs => Blk.fr (h2 hs) hz hc (by first | exact .inl (by decide) | exact .inr (by simp [natV, intV])), fun hs => (fun h => (let ⟨a, b, k, o1, o2⟩ := h; ⟨a, b, k.fra hz hc, o1.fra hz hc, o2.fra hz hc⟩)) (h3 hs)⟩
         | 12, _ => exact absurd rfl hne
         | 13, ⟨b, e, h1, h2, h3⟩ => exact ⟨b, e, h1, fun hs => Blk.fr (h2 hs) hz hc (by first | exact .inl (by decide) | exact .inr (by simp [natV, intV])), fun hs => (fun h => h.fra hz hc) (h3 hs)⟩)
      | (refine stT_agg (w0 := w9) (vs := [intV 8, .int .u8 3]) hz rfl (by kernel_rfl) rfl (by simp [intV, one_int]) fun w10 hb10 hc => ⟨b13, hc, q13, ⟨b13, (by first | exact e13 | rfl), q13, fun h => absurd h (by decide), fun _ => hb10⟩, ?_⟩
         intro iI s v hne hR
         match iI, hR with
         | 0, h | 1, h | 2, h | 3, h | 4, h | 9, h | 10, h | 14, h | 15, h | 16, h => exact h
         | 5, h => exact HandR.fr h hz hc
         | 6, h => exact HandR.fr h hz hc
         | 7, h => exact OwnW.fr h hz hc
         | 8, h => exact (let ⟨a, e, k⟩ := h; ⟨a, e, k.fra hz hc⟩)
         | 11, ⟨b, e, h1, h2, h3⟩ => exact ⟨b, e, h1, fun hs => Blk.fr (h2 hs) hz hc (by first | exact .inl (by decide) | exact .inr (by simp [natV, intV])), fun hs => (fun h => (let ⟨a, b, k, o1, o2⟩ := h; ⟨a, b, k.fra hz hc, o1.fra hz hc, o2.fra hz hc⟩)) (h3 hs)⟩
         | 12, ⟨b, e, h1, h2, h3⟩ => exact ⟨b, e, h1, fun hs => Blk.fr (h2 hs) hz hc (by first | exact .inl (by decide) | exact .inr (by simp [natV, intV])), fun hs => (fun h => (let ⟨a, k, o1⟩ := h; ⟨a, k.fra hz hc, o1.fra hz hc⟩)) (h3 hs)⟩
         | 13, _ => exact absurd rfl hne)
  · intro g9 w9 hx9 hR hag
    have s9 := hx9.st
    have n9 : Now w9 := trivial
    have r9 := Ext.refl w9
    have z9 := hx9.size
    have d10 : (g9 51) = intV 0 := hR 10 _ _ (by decide) rfl rfl
    have d12 : ∃ b, (g9 5) = .pointer (some ⟨b, 0, none⟩) ∧ wc.heap.size ≤ b ∧ (true = false → Blk w9 b 39 [.slice none 0 0]) ∧ (true = true → ∃ a, Blk w9 b 39 [a] ∧ OwnA w9 wc.heap.size a [⟨8, 3⟩]) := hR 12 _ _ (by decide) rfl rfl
    obtain ⟨b12, e12, q12, _, f12⟩ := d12
    replace f12 := f12 rfl
    have nw12 := Nw.of q12
    obtain ⟨aA, kaA, oaA⟩ := f12
    have KAA := kaA.bk
    have AA := oaA.o
    clear kaA oaA
    have d13 : ∃ b, (g9 6) = .pointer (some ⟨b, 0, none⟩) ∧ wc.heap.size ≤ b ∧ (true = false → Blk w9 b 50 [intV 0, .int .u8 0]) ∧ (true = true → Blk w9 b 50 [intV 8, .int .u8 3]) := hR 13 _ _ (by decide) rfl rfl
    obtain ⟨b13, e13, q13, _, f13⟩ := d13
    replace f13 := f13 rfl
    have nw13 := Nw.of q13
    have KPA := f13.bk
    have a1 := hag.at 1 (by kernel_rfl)
    have a2 := hag.at 2 (by kernel_rfl)
    have a3 := hag.at 3 (by kernel_rfl)
    simp only [S5, ↓reduceIte, Nat.reduceEqDiff, initF, *] at a1 a2 a3
    clear hag hR
    simp only [List.drop_succ_cons, List.drop_zero]
    have hfl := fun (host : Int) w' (a : Bl w1.heap.size w1 w') (d3 : w1.heap.size ≤ w'.heap.size) => agentFail (host := host) (Nat.le_refl _) ((hS w' a).up d3) ((hW w' a).up d3) ((hX w' a).up d3)
    have hfl2 := fun (host : Int) hv rv x w' (hX : WorldR w' w'.heap.size hv rv x) (a : Bl w1.heap.size w1 w') (d3 : w1.heap.size ≤ w'.heap.size) => agentFail (host := host) (Nat.le_refl _) ((hS w' a).up d3) ((hW w' a).up d3) hX
    simp only [hsl] at hfl hfl2
    replace hfl : Hid _ := hfl
    replace hfl2 : Hid _ := hfl2
    obtain ⟨wd, hw9⟩ : ∃ x, x = w9 := ⟨_, rfl⟩
    subst hw9
    (repeat' first
    | ((with_reducible refine at_row ?_); refine row1_k (by rfl) (by decide) fun _ _ _ _ _ _ _ => ?_)
    | with_reducible first | refine alloc_k fun _ _ _ _ _ _ => ?_ | refine row_k fun _ _ _ _ _ _ => ?_ | refine fork (fun _ => ?_) fun _ => ?_ | refine forkp (fun _ => ?_) fun _ => ?_ | refine forke (fun _ => ?_) fun _ _ => ?_ | refine tail_k fun _ _ _ => ?_ | refine ext_k fun _ _ _ => ?_ | refine need_a ?_ | refine st_agg (by kernel_rfl) rfl (by simp only [natV, intV, S3, *]) fun _ _ _ _ => ?_ | refine wpd_q_a ?_
    | simp (maxDischargeDepth := 3) only [↓X, ↓Y, ↓Q, S1, ↓reduceIte, Nat.reduceEqDiff, Nat.reduceAdd, Int.reduceLT, Int.reduceLE, Int.reduceNeg, Int.reduceBEq, Int.reduceBNe, Int.reduceEq, Nat.reduceLeDiff, Nat.reduceMul, Nat.reduceLT, natV, intV, putAt, idxOk, flatP, *, siteC]
    | simp (singlePass := true) (maxDischargeDepth := 99) only [*, S2, Nat.reduceLT, siteC])
    refine call_k (hfl.out 0 _ FR FR) ?_
    rintro _ wf nf sf ⟨_, rfl, hF, rF, rfl, ohF, orF⟩
    rw [kn26_failW] at ohF orF
    rw [kn26_failE]
    have HF := ohF.o
    have RF := orF.o
    have fvF := (ohF.slN (f := stateC)).fv
    have vF := (ohF.slN (f := stateC)).v (Nat.le_refl _)
    have vR := (orF.slN (f := replC)).v (Nat.le_refl _)
    have hF0 : Hid (∀ w', Vp hF wf w' → rdv none w' (addF (elemAt hF 2 0) 0) = some (.int .u8 4)) := fun w' h => fvF.2 w' h 0 (by decide) 0 (by decide)
    have pF0 : Hid (isPtr (elemAt hF 2 0)) := fvF.1 0 (by decide)
    have rF0 : Hid (∀ w', Vp rF wf w' → rdv (some 2) w' (elemAt rF 2 0) = some (.agg #[intV 0, intV 2])) := fun w' h => vR.2.2.2.2.2.1 w' h 0 (by decide)
    have hF1 : Hid (SlWf hF ∧ isSl hF ∧ lenN hF = 3 ∧ Vp hF wf wf) := ⟨vF.1, vF.2.1, vF.2.2.1, vF.2.2.2.2.2.2.2⟩
    have rF1 : Hid (SlWf rF ∧ isSl rF ∧ lenN rF = 1 ∧ Vp rF wf wf) := ⟨vR.1, vR.2.1, vR.2.2.1, vR.2.2.2.2.2.2.2⟩
    clear fvF vF vR
    clear ohF orF
    (repeat' first
    | ((with_reducible refine at_row ?_); refine row1_k (by rfl) (by decide) fun _ _ _ _ _ _ _ => ?_)
    | with_reducible first | refine alloc_k fun _ _ _ _ _ _ => ?_ | refine row_k fun _ _ _ _ _ _ => ?_ | refine fork (fun _ => ?_) fun _ => ?_ | refine forkp (fun _ => ?_) fun _ => ?_ | refine forke (fun _ => ?_) fun _ _ => ?_ | refine tail_k fun _ _ _ => ?_ | refine ext_k fun _ _ _ => ?_ | refine need_a ?_ | refine st_agg (by kernel_rfl) rfl (by simp only [natV, intV, S3, *]) fun _ _ _ _ => ?_ | refine wpd_q_a ?_
    | simp (maxDischargeDepth := 3) only [↓X, ↓Y, ↓Q, S1, ↓reduceIte, Nat.reduceEqDiff, Nat.reduceAdd, Int.reduceLT, Int.reduceLE, Int.reduceNeg, Int.reduceBEq, Int.reduceBNe, Int.reduceEq, Nat.reduceLeDiff, Nat.reduceMul, Nat.reduceLT, natV, intV, putAt, idxOk, flatP, *, siteC]
    | simp (singlePass := true) (maxDischargeDepth := 99) only [*, S2, Nat.reduceLT, siteC])
    refine call_k (hfl2.out 0 _ _ _ _ ⟨(HF.1 _ FR).slN (f := stateC), (RF.1 _ FR).slN (f := replC)⟩ FR FR) ?_
    rintro _ wg ng sg ⟨_, rfl, hG, rG, rfl, ohG, orG⟩
    rw [kn26_fail2]
    have aG := ohG.one
    have bG := orG.one
    clear ohG orG
    (repeat' first
    | ((with_reducible refine at_row ?_); refine row1_k (by rfl) (by decide) fun _ _ _ _ _ _ _ => ?_)
    | with_reducible first | refine alloc_k fun _ _ _ _ _ _ => ?_ | refine row_k fun _ _ _ _ _ _ => ?_ | refine fork (fun _ => ?_) fun _ => ?_ | refine forkp (fun _ => ?_) fun _ => ?_ | refine forke (fun _ => ?_) fun _ _ => ?_ | refine tail_k fun _ _ _ => ?_ | refine ext_k fun _ _ _ => ?_ | refine need_a ?_ | refine st_agg (by kernel_rfl) rfl (by simp only [natV, intV, S3, *]) fun _ _ _ _ => ?_ | refine wpd_q_a ?_
    | simp (maxDischargeDepth := 3) only [↓X, ↓Y, ↓Q, S1, ↓reduceIte, Nat.reduceEqDiff, Nat.reduceAdd, Int.reduceLT, Int.reduceLE, Int.reduceNeg, Int.reduceBEq, Int.reduceBNe, Int.reduceEq, Nat.reduceLeDiff, Nat.reduceMul, Nat.reduceLT, natV, intV, putAt, idxOk, flatP, *, siteC]
    | simp (singlePass := true) (maxDischargeDepth := 99) only [*, S2, Nat.reduceLT, siteC])
    refine call_k (hand26 ⟨9, 20, ⟨2, 0, 1, 0⟩⟩ (show Now _ from trivial) hsl (hS _ FR) (hW _ FR) ⟨(HF.1 _ FR).slN (f := stateC), (RF.1 _ FR).slN (f := replC)⟩ (Nat.le_refl _) (Sl.nil _ 0 _ _) kn26_two FR FR (Nat.le_refl _) (Nat.zero_le _) (by decide)) ?_
    rintro _ wh nh sh ⟨_, aH, rfl, ⟨hH, rH, rfl, ohH, orH⟩, oaH⟩
    have HH1 := ohH.o
    have RH1 := orH.o
    have aH1 := oaH.one
    clear ohH orH oaH
    (repeat' first
    | ((with_reducible refine wpd_at 7 ?_); refine wpd_hold ?_)
    | ((with_reducible refine at_row ?_); refine row1_k (by rfl) (by decide) fun _ _ _ _ _ _ _ => ?_)
    | with_reducible first | refine alloc_k fun _ _ _ _ _ _ => ?_ | refine row_k fun _ _ _ _ _ _ => ?_ | refine fork (fun _ => ?_) fun _ => ?_ | refine forkp (fun _ => ?_) fun _ => ?_ | refine forke (fun _ => ?_) fun _ _ => ?_ | refine tail_k fun _ _ _ => ?_ | refine ext_k fun _ _ _ => ?_ | refine need_a ?_ | refine st_agg (by kernel_rfl) rfl (by simp only [natV, intV, S3, *]) fun _ _ _ _ => ?_ | refine wpd_q_a ?_
    | simp (maxDischargeDepth := 3) only [↓X, ↓Y, ↓Q, S1, ↓reduceIte, Nat.reduceEqDiff, Nat.reduceAdd, Int.reduceLT, Int.reduceLE, Int.reduceNeg, Int.reduceBEq, Int.reduceBNe, Int.reduceEq, Nat.reduceLeDiff, Nat.reduceMul, Nat.reduceLT, natV, intV, putAt, idxOk, flatP, *, siteC, replyV, replyC]
    | simp (singlePass := true) (maxDischargeDepth := 99) only [*, S2, Nat.reduceLT, siteC, replyV, replyC])
    rename_i wz7 nz7 kz7 sz7
    unfold wpdH
    refine wpd_relS 17 [(14, 11), (15, 12), (16, 13)] (fun iI s v w9 => match iI with
      | 0 => v = .agg (siteC u siteEx26).toArray
      | 1 => v = .agg #[wv]
      | 2 => v = .agg #[hv, rv]
      | 3 => v = .agg #[.slice none 0 0]
      | 4 => v = requestV ⟨0, 20, ⟨1, 1, 0, 0⟩⟩
      | 5 => ∃ h r a : Value, v = .tuple #[.agg #[h, r], .agg #[a], .agg #[intV 0, .int .u8 0], intV 1] ∧ h.oneCell' = true ∧ r.oneCell' = true ∧ a.oneCell' = true
      | 6 => ∃ h r a : Value, v = .tuple #[.agg #[h, r], .agg #[a], .agg #[intV 0, .int .u8 0], intV 1] ∧ h.oneCell' = true ∧ r.oneCell' = true ∧ a.oneCell' = true
      | 7 => ∃ h r : Value, v = .agg #[h, r] ∧ h.oneCell' = true ∧ r.oneCell' = true
      | 8 => ∃ a : Value, v = .agg #[a] ∧ a.oneCell' = true
      | 9 => v = .agg #[intV 0, .int .u8 0]
      | 10 => v = intV 1
      | 11 => ∃ b, v = .pointer (some ⟨b, 0, none⟩) ∧ wz7.heap.size ≤ b ∧ (s = false → Blk w9 b 36 [.slice none 0 0, .slice none 0 0]) ∧ (s = true → True)
      | 12 => ∃ b, v = .pointer (some ⟨b, 0, none⟩) ∧ wz7.heap.size ≤ b ∧ (s = false → Blk w9 b 39 [.slice none 0 0]) ∧ (s = true → True)
      | 13 => ∃ b, v = .pointer (some ⟨b, 0, none⟩) ∧ wz7.heap.size ≤ b ∧ (s = false → Blk w9 b 50 [intV 0, .int .u8 0]) ∧ (s = true → True)
      | 14 => True
      | 15 => True
      | 16 => True
      | _ => False) (by kernel_rfl) (by kernel_rfl) (by kernel_rfl) (by kernel_rfl) ?_ ?_ ?_
    · intro iI s v w1 w2 hR hx9
      match iI, hR with
      | 0, h => exact h
      | 1, h => exact h
      | 2, h => exact h
      | 3, h => exact h
      | 4, h => exact h
      | 5, h => exact h
      | 6, h => exact h
      | 7, h => exact h
      | 8, h => exact h
      | 9, h => exact h
      | 10, h => exact h
      | 11, ⟨b, e, h1, h2, h3⟩ => exact ⟨b, e, h1, fun hs => (h2 hs).ext hx9, fun hs => (fun h => trivial) (h3 hs)⟩
      | 12, ⟨b, e, h1, h2, h3⟩ => exact ⟨b, e, h1, fun hs => (h2 hs).ext hx9, fun hs => (fun h => trivial) (h3 hs)⟩
      | 13, ⟨b, e, h1, h2, h3⟩ => exact ⟨b, e, h1, fun hs => (h2 hs).ext hx9, fun hs => (fun h => trivial) (h3 hs)⟩
      | 14, h => exact h
      | 15, h => exact h
      | 16, h => exact h
    · intro iI oO hi ho gF w9 S9 hx9 hdep hag
      have s9 := hx9.st
      have n9 : Now w9 := trivial
      have r9 := Ext.refl w9
      have z9 := hx9.size
      rcases iI with _|_|_|_|_|_|_|_|_|_|_|_|_|_|_|_|_|iI
      have e := Option.some.inj ho
      subst e
      have a1 := hag.at 1 (by kernel_rfl)
      simp only [S5, ↓reduceIte, Nat.reduceEqDiff, initF, *] at a1
      clear hag hdep ho
      refine ⟨fun _ => ?_, fun a9 pa da hal => by simp [alL] at hal⟩
      refine relStep_off rfl ?_
      rotate_left
      have e := Option.some.inj ho
      subst e
      have a2 := hag.at 2 (by kernel_rfl)
      simp only [S5, ↓reduceIte, Nat.reduceEqDiff, initF, *] at a2
      clear hag hdep ho
      refine ⟨fun _ => ?_, fun a9 pa da hal => by simp [alL] at hal⟩
      refine relStep_off rfl ?_
      rotate_left
      have e := Option.some.inj ho
      subst e
      have a3 := hag.at 3 (by kernel_rfl)
      simp only [S5, ↓reduceIte, Nat.reduceEqDiff, initF, *] at a3
      clear hag hdep ho
      refine ⟨fun _ => ?_, fun a9 pa da hal => by simp [alL] at hal⟩
      refine relStep_off rfl ?_
      rotate_left
      have e := Option.some.inj ho
      subst e
      clear hag hdep ho
      refine ⟨fun _ => ?_, fun a9 pa da hal => by simp [alL] at hal⟩
      refine relStep_off rfl ?_
      rotate_left
      have e := Option.some.inj ho
      subst e
      clear hag hdep ho
      refine ⟨fun _ => ?_, fun a9 pa da hal => by simp [alL] at hal⟩
      refine relStep_off rfl ?_
      rotate_left
      have e := Option.some.inj ho
      subst e
      have d0 : (gF 80) = .agg (siteC u siteEx26).toArray := hdep ⟨0, .data⟩ (by simp) rfl _ _ rfl rfl
      have d1 : (gF 81) = .agg #[wv] := hdep ⟨1, .data⟩ (by simp) rfl _ _ rfl rfl
      have d2 : (gF 82) = .agg #[hv, rv] := hdep ⟨2, .data⟩ (by simp) rfl _ _ rfl rfl
      have d3 : (gF 83) = .agg #[.slice none 0 0] := hdep ⟨3, .data⟩ (by simp) rfl _ _ rfl rfl
      have d4 : (gF 84) = requestV ⟨0, 20, ⟨1, 1, 0, 0⟩⟩ := hdep ⟨4, .data⟩ (by simp) rfl _ _ rfl rfl
      clear hag hdep ho
      refine ⟨fun _ => ?_, fun a9 pa da hal => by simp [alL] at hal⟩
      refine relStep_off rfl ?_
      rotate_left
      have e := Option.some.inj ho
      subst e
      have d5 : ∃ h r a : Value, (gF 85) = .tuple #[.agg #[h, r], .agg #[a], .agg #[intV 0, .int .u8 0], intV 1] ∧ h.oneCell' = true ∧ r.oneCell' = true ∧ a.oneCell' = true := hdep ⟨5, .data⟩ (by simp) rfl _ _ rfl rfl
      clear hag hdep ho
      refine ⟨fun _ => ?_, fun a9 pa da hal => by simp [alL] at hal⟩
      refine relStep_off rfl ?_
      rotate_left
      have e := Option.some.inj ho
      subst e
      have d6 : ∃ h r a : Value, (gF 79) = .tuple #[.agg #[h, r], .agg #[a], .agg #[intV 0, .int .u8 0], intV 1] ∧ h.oneCell' = true ∧ r.oneCell' = true ∧ a.oneCell' = true := hdep ⟨6, .data⟩ (by simp) rfl _ _ rfl rfl
      obtain ⟨h6, r6, a6, e6, o6, p6, q6⟩ := d6
      clear hag hdep ho
      refine ⟨fun _ => ?_, fun a9 pa da hal => by simp [alL] at hal⟩
      refine relStep_off rfl ?_
      rotate_left
      have e := Option.some.inj ho
      subst e
      have d6 : ∃ h r a : Value, (gF 79) = .tuple #[.agg #[h, r], .agg #[a], .agg #[intV 0, .int .u8 0], intV 1] ∧ h.oneCell' = true ∧ r.oneCell' = true ∧ a.oneCell' = true := hdep ⟨6, .data⟩ (by simp) rfl _ _ rfl rfl
      obtain ⟨h6, r6, a6, e6, o6, p6, q6⟩ := d6
      clear hag hdep ho
      refine ⟨fun _ => ?_, fun a9 pa da hal => by simp [alL] at hal⟩
      refine relStep_off rfl ?_
      rotate_left
      have e := Option.some.inj ho
      subst e
      have d6 : ∃ h r a : Value, (gF 79) = .tuple #[.agg #[h, r], .agg #[a], .agg #[intV 0, .int .u8 0], intV 1] ∧ h.oneCell' = true ∧ r.oneCell' = true ∧ a.oneCell' = true := hdep ⟨6, .data⟩ (by simp) rfl _ _ rfl rfl
      obtain ⟨h6, r6, a6, e6, o6, p6, q6⟩ := d6
      clear hag hdep ho
      refine ⟨fun _ => ?_, fun a9 pa da hal => by simp [alL] at hal⟩
      refine relStep_off rfl ?_
      rotate_left
      have e := Option.some.inj ho
      subst e
      have d6 : ∃ h r a : Value, (gF 79) = .tuple #[.agg #[h, r], .agg #[a], .agg #[intV 0, .int .u8 0], intV 1] ∧ h.oneCell' = true ∧ r.oneCell' = true ∧ a.oneCell' = true := hdep ⟨6, .data⟩ (by simp) rfl _ _ rfl rfl
      obtain ⟨h6, r6, a6, e6, o6, p6, q6⟩ := d6
      clear hag hdep ho
      refine ⟨fun _ => ?_, fun a9 pa da hal => by simp [alL] at hal⟩
      refine relStep_off rfl ?_
      rotate_left
      have e := Option.some.inj ho
      subst e
      clear hag hdep ho
      refine ⟨fun _ => ?_, fun a9 pa da hal => by simp [alL] at hal⟩
      refine relStep_off rfl ?_
      rotate_left
      have e := Option.some.inj ho
      subst e
      clear hag hdep ho
      refine ⟨fun _ => ?_, fun a9 pa da hal => by simp [alL] at hal⟩
      refine relStep_off rfl ?_
      rotate_left
      have e := Option.some.inj ho
      subst e
      clear hag hdep ho
      refine ⟨fun _ => ?_, fun a9 pa da hal => by simp [alL] at hal⟩
      refine relStep_off rfl ?_
      rotate_left
      have e := Option.some.inj ho
      subst e
      have d11 : ∃ b, (gF 17) = .pointer (some ⟨b, 0, none⟩) ∧ wz7.heap.size ≤ b ∧ ((S9 11) = false → Blk w9 b 36 [.slice none 0 0, .slice none 0 0]) ∧ ((S9 11) = true → True) := hdep ⟨11, .data⟩ (by simp) rfl _ _ rfl rfl
      obtain ⟨b11, e11, q11, hz11, _⟩ := d11
      have d7 : ∃ h r : Value, (gF 86) = .agg #[h, r] ∧ h.oneCell' = true ∧ r.oneCell' = true := hdep ⟨7, .data⟩ (by simp) rfl _ _ rfl rfl
      obtain ⟨h7, r7, e7, o7, p7⟩ := d7
      clear hag hdep ho
      refine ⟨fun h => by simp [alL] at h, fun a9 pa da hal hS9 hpa hda => ?_⟩
      obtain rfl : 11 = a9 := by simpa [alL] using hal
      obtain rfl := Option.some.inj hpa
      obtain rfl := Option.some.inj hda
      have hz := hz11 hS9
      clear hal hpa hda hz11
      refine relStep_off rfl ?_
      rotate_left
      have e := Option.some.inj ho
      subst e
      have d12 : ∃ b, (gF 18) = .pointer (some ⟨b, 0, none⟩) ∧ wz7.heap.size ≤ b ∧ ((S9 12) = false → Blk w9 b 39 [.slice none 0 0]) ∧ ((S9 12) = true → True) := hdep ⟨12, .data⟩ (by simp) rfl _ _ rfl rfl
      obtain ⟨b12, e12, q12, hz12, _⟩ := d12
      have d8 : ∃ a : Value, (gF 87) = .agg #[a] ∧ a.oneCell' = true := hdep ⟨8, .data⟩ (by simp) rfl _ _ rfl rfl
      obtain ⟨a8, e8, q8⟩ := d8
      clear hag hdep ho
      refine ⟨fun h => by simp [alL] at h, fun a9 pa da hal hS9 hpa hda => ?_⟩
      obtain rfl : 12 = a9 := by simpa [alL] using hal
      obtain rfl := Option.some.inj hpa
      obtain rfl := Option.some.inj hda
      have hz := hz12 hS9
      clear hal hpa hda hz12
      refine relStep_off rfl ?_
      rotate_left
      have e := Option.some.inj ho
      subst e
      have d13 : ∃ b, (gF 19) = .pointer (some ⟨b, 0, none⟩) ∧ wz7.heap.size ≤ b ∧ ((S9 13) = false → Blk w9 b 50 [intV 0, .int .u8 0]) ∧ ((S9 13) = true → True) := hdep ⟨13, .data⟩ (by simp) rfl _ _ rfl rfl
      obtain ⟨b13, e13, q13, hz13, _⟩ := d13
      have d9 : (gF 88) = .agg #[intV 0, .int .u8 0] := hdep ⟨9, .data⟩ (by simp) rfl _ _ rfl rfl
      clear hag hdep ho
      refine ⟨fun h => by simp [alL] at h, fun a9 pa da hal hS9 hpa hda => ?_⟩
      obtain rfl : 13 = a9 := by simpa [alL] using hal
      obtain rfl := Option.some.inj hpa
      obtain rfl := Option.some.inj hda
      have hz := hz13 hS9
      clear hal hpa hda hz13
      refine relStep_off rfl ?_
      rotate_left
      · omega
      all_goals (repeat' first
    | ((with_reducible refine at_row ?_); refine row1_k (by rfl) (by decide) fun _ _ _ _ _ _ _ => ?_)
    | with_reducible first | refine alloc_k fun _ _ _ _ _ _ => ?_ | refine row_k fun _ _ _ _ _ _ => ?_ | refine fork (fun _ => ?_) fun _ => ?_ | refine forkp (fun _ => ?_) fun _ => ?_ | refine forke (fun _ => ?_) fun _ _ => ?_ | refine tail_k fun _ _ _ => ?_ | refine ext_k fun _ _ _ => ?_ | refine need_a ?_ | refine st_agg (by kernel_rfl) rfl (by simp only [natV, intV, S3, *]) fun _ _ _ _ => ?_ | refine wpd_q_a ?_
    | ((with_reducible refine at_f 26 ?_); refine ret_k (law26starts (id := 0) (lease := 20) (service := 0) (host := 1)) fun _ _ _ => ?_)
    | simp (maxDischargeDepth := 3) only [↓X, ↓Y, ↓Q, S1, ↓reduceIte, Nat.reduceEqDiff, Nat.reduceAdd, Int.reduceLT, Int.reduceLE, Int.reduceNeg, Int.reduceBEq, Int.reduceBNe, Int.reduceEq, Nat.reduceLeDiff, Nat.reduceMul, Nat.reduceLT, natV, intV, putAt, idxOk, flatP, *, siteC]
    | simp (singlePass := true) (maxDischargeDepth := 99) only [*, S2, Nat.reduceLT, siteC])
      all_goals first
        | (refine CallsV.mono (hand26 ⟨0, 20, ⟨1, 1, 0, 0⟩⟩ n9 hsl (hS _ FR) (hW _ FR) (hX _ FR) z9 (Sl.nil _ 0 _ _) kn26_a FR FR FR (Nat.zero_le _) (by decide)) fun v w10 hh => ⟨hh.1, ?_⟩; obtain ⟨v0, a, rfl, ⟨h1, r1, rfl, o1, o2⟩, oa⟩ := hh.2; exact ⟨_, _, _, rfl, o1.one, o2.one, oa.one⟩)
        | (exact d5)
        | (exact ⟨_, _, rfl, o6, p6⟩)
        | (exact ⟨_, rfl, q6⟩)
        | (rename_i b10 w10 n10 k10 s10 q10; exact ⟨_, rfl, FR, fun _ => k10.2.1 _ k10.2.2.1, fun h => absurd h (by decide)⟩)
        | (refine stT_agg (w0 := w9) (vs := [h7, r7]) hz rfl (by kernel_rfl) rfl (by simp [o7, p7]) fun w10 hb10 hc => ⟨b11, hc, q11, ⟨b11, (by first | exact e11 | rfl), q11, fun h => absurd h (by decide), fun _ => trivial⟩, ?_⟩
           intro iI s v hne hR
           match iI, hR with
           | 0, h | 1, h | 2, h | 3, h | 4, h | 9, h | 10, h | 14, h | 15, h | 16, h => exact h
           | 5, h => exact h
           | 6, h => exact h
           | 7, h => exact h
           | 8, h => exact h
           | 11, _ => exact absurd rfl hne
           | 12, ⟨b, e, h1, h2, h3⟩ => exact ⟨b, e, h1, fun hs => Blk.fr (h2 hs) hz hc (by first | exact .inl (by decide) | exact .inr (by simp [natV, intV])), fun hs => (fun h => trivial) (h3 hs)⟩
           | 13, ⟨b, e, h1, h2, h3⟩ => exact ⟨b, e, h1, fun hs => Blk.fr (h2 hs) hz hc (by first | exact .inl (by decide) | exact .inr (by simp [natV, intV])), fun hs => (fun h => trivial) (h3 hs)⟩)
        | (refine stT_agg (w0 := w9) (vs := [a8]) hz rfl (by kernel_rfl) rfl (by simp [q8]) fun w10 hb10 hc => ⟨b12, hc, q12, ⟨b12, (by first | exact e12 | rfl), q12, fun h => absurd h (by decide), fun _ => trivial⟩, ?_⟩
           intro iI s v hne hR
           match iI, hR with
           | 0, h | 1, h | 2, h | 3, h | 4, h | 9, h | 10, h | 14, h | 15, h | 16, h => exact h
           | 5, h => exact h
           | 6, h => exact h
           | 7, h => exact h
           | 8, h => exact h
           | 11, ⟨b, e, h1, h2, h3⟩ => exact ⟨b, e, h1, fun hs => Blk.fr (h2 hs) hz hc (by first | exact .inl (by decide) | exact .inr (by simp [natV, intV])), fun hs => (fun h => trivial) (h3 hs)⟩
           | 12, _ => exact absurd rfl hne
           | 13, ⟨b, e, h1, h2, h3⟩ => exact ⟨b, e, h1, fun hs => Blk.fr (h2 hs) hz hc (by first | exact .inl (by decide) | exact .inr (by simp [natV, intV])), fun hs => (fun h => trivial) (h3 hs)⟩)
        | (refine stT_agg (w0 := w9) (vs := [intV 0, .int .u8 0]) hz rfl (by kernel_rfl) rfl (by simp [intV, one_int]) fun w10 hb10 hc => ⟨b13, hc, q13, ⟨b13, (by first | exact e13 | rfl), q13, fun h => absurd h (by decide), fun _ => trivial⟩, ?_⟩
           intro iI s v hne hR
           match iI, hR with
           | 0, h | 1, h | 2, h | 3, h | 4, h | 9, h | 10, h | 14, h | 15, h | 16, h => exact h
           | 5, h => exact h
           | 6, h => exact h
           | 7, h => exact h
           | 8, h => exact h
           | 11, ⟨b, e, h1, h2, h3⟩ => exact ⟨b, e, h1, fun hs => Blk.fr (h2 hs) hz hc (by first | exact .inl (by decide) | exact .inr (by simp [natV, intV])), fun hs => (fun h => trivial) (h3 hs)⟩
           | 12, ⟨b, e, h1, h2, h3⟩ => exact ⟨b, e, h1, fun hs => Blk.fr (h2 hs) hz hc (by first | exact .inl (by decide) | exact .inr (by simp [natV, intV])), fun hs => (fun h => trivial) (h3 hs)⟩
           | 13, _ => exact absurd rfl hne)
    · intro g9 w9 hx9 hR hag
      have s9 := hx9.st
      have n9 : Now w9 := trivial
      have r9 := Ext.refl w9
      have z9 := hx9.size
      have d10 : (g9 89) = intV 1 := hR 10 _ _ (by decide) rfl rfl
      have a1 := hag.at 1 (by kernel_rfl)
      have a2 := hag.at 2 (by kernel_rfl)
      have a3 := hag.at 3 (by kernel_rfl)
      have a5 := hag.at 5 (by kernel_rfl)
      have a6 := hag.at 6 (by kernel_rfl)
      have a7 := hag.at 7 (by kernel_rfl)
      have a8 := hag.at 8 (by kernel_rfl)
      have a9 := hag.at 9 (by kernel_rfl)
      have a11 := hag.at 11 (by kernel_rfl)
      have a13 := hag.at 13 (by kernel_rfl)
      have a15 := hag.at 15 (by kernel_rfl)
      have a16 := hag.at 16 (by kernel_rfl)
      simp only [S5, ↓reduceIte, Nat.reduceEqDiff, initF, *] at a1 a2 a3 a5 a6 a7 a8 a9 a11 a13 a15 a16
      clear hag hR
      simp only [List.drop_succ_cons, List.drop_zero]
      (repeat' first
    | ((with_reducible refine wpd_at 8 ?_); refine wpd_hold ?_)
    | ((with_reducible refine at_row ?_); refine row1_k (by rfl) (by decide) fun _ _ _ _ _ _ _ => ?_)
    | with_reducible first | refine alloc_k fun _ _ _ _ _ _ => ?_ | refine row_k fun _ _ _ _ _ _ => ?_ | refine fork (fun _ => ?_) fun _ => ?_ | refine forkp (fun _ => ?_) fun _ => ?_ | refine forke (fun _ => ?_) fun _ _ => ?_ | refine tail_k fun _ _ _ => ?_ | refine ext_k fun _ _ _ => ?_ | refine need_a ?_ | refine st_agg (by kernel_rfl) rfl (by simp only [natV, intV, S3, *]) fun _ _ _ _ => ?_ | refine wpd_q_a ?_
    | simp (maxDischargeDepth := 3) only [↓X, ↓Y, ↓Q, S1, ↓reduceIte, Nat.reduceEqDiff, Nat.reduceAdd, Int.reduceLT, Int.reduceLE, Int.reduceNeg, Int.reduceBEq, Int.reduceBNe, Int.reduceEq, Nat.reduceLeDiff, Nat.reduceMul, Nat.reduceLT, natV, intV, putAt, idxOk, flatP, *, siteC]
    | simp (singlePass := true) (maxDischargeDepth := 99) only [*, S2, Nat.reduceLT, siteC])
      obtain ⟨wz8, hw9⟩ : ∃ x, x = w9 := ⟨_, rfl⟩
      subst hw9
      unfold wpdH
      refine wpd_relS 17 [(14, 11), (15, 12), (16, 13)] (fun iI s v w9 => match iI with
        | 0 => v = .agg (siteC u siteEx26).toArray
        | 1 => v = .agg #[wv]
        | 2 => v = .agg #[hv, rv]
        | 3 => v = .agg #[.slice none 0 0]
        | 4 => v = requestV ⟨1, -1, ⟨1, 1, 0, 0⟩⟩
        | 5 => ∃ h r a : Value, v = .tuple #[.agg #[h, r], .agg #[a], .agg #[intV 0, .int .u8 0], intV 1] ∧ h.oneCell' = true ∧ r.oneCell' = true ∧ a.oneCell' = true
        | 6 => ∃ h r a : Value, v = .tuple #[.agg #[h, r], .agg #[a], .agg #[intV 0, .int .u8 0], intV 1] ∧ h.oneCell' = true ∧ r.oneCell' = true ∧ a.oneCell' = true
        | 7 => ∃ h r : Value, v = .agg #[h, r] ∧ h.oneCell' = true ∧ r.oneCell' = true
        | 8 => ∃ a : Value, v = .agg #[a] ∧ a.oneCell' = true
        | 9 => v = .agg #[intV 0, .int .u8 0]
        | 10 => v = intV 1
        | 11 => ∃ b, v = .pointer (some ⟨b, 0, none⟩) ∧ wz8.heap.size ≤ b ∧ (s = false → Blk w9 b 36 [.slice none 0 0, .slice none 0 0]) ∧ (s = true → True)
        | 12 => ∃ b, v = .pointer (some ⟨b, 0, none⟩) ∧ wz8.heap.size ≤ b ∧ (s = false → Blk w9 b 39 [.slice none 0 0]) ∧ (s = true → True)
        | 13 => ∃ b, v = .pointer (some ⟨b, 0, none⟩) ∧ wz8.heap.size ≤ b ∧ (s = false → Blk w9 b 50 [intV 0, .int .u8 0]) ∧ (s = true → True)
        | 14 => True
        | 15 => True
        | 16 => True
        | _ => False) (by kernel_rfl) (by kernel_rfl) (by kernel_rfl) (by kernel_rfl) ?_ ?_ ?_
      · intro iI s v w1 w2 hR hx9
        match iI, hR with
        | 0, h => exact h
        | 1, h => exact h
        | 2, h => exact h
        | 3, h => exact h
        | 4, h => exact h
        | 5, h => exact h
        | 6, h => exact h
        | 7, h => exact h
        | 8, h => exact h
        | 9, h => exact h
        | 10, h => exact h
        | 11, ⟨b, e, h1, h2, h3⟩ => exact ⟨b, e, h1, fun hs => (h2 hs).ext hx9, fun hs => (fun h => trivial) (h3 hs)⟩
        | 12, ⟨b, e, h1, h2, h3⟩ => exact ⟨b, e, h1, fun hs => (h2 hs).ext hx9, fun hs => (fun h => trivial) (h3 hs)⟩
        | 13, ⟨b, e, h1, h2, h3⟩ => exact ⟨b, e, h1, fun hs => (h2 hs).ext hx9, fun hs => (fun h => trivial) (h3 hs)⟩
        | 14, h => exact h
        | 15, h => exact h
        | 16, h => exact h
      · intro iI oO hi ho gF w9 S9 hx9 hdep hag
        have s9 := hx9.st
        have n9 : Now w9 := trivial
        have r9 := Ext.refl w9
        have z9 := hx9.size
        rcases iI with _|_|_|_|_|_|_|_|_|_|_|_|_|_|_|_|_|iI
        have e := Option.some.inj ho
        subst e
        have a1 := hag.at 1 (by kernel_rfl)
        simp only [S5, ↓reduceIte, Nat.reduceEqDiff, initF, *] at a1
        clear hag hdep ho
        refine ⟨fun _ => ?_, fun a9 pa da hal => by simp [alL] at hal⟩
        refine relStep_off rfl ?_
        rotate_left
        have e := Option.some.inj ho
        subst e
        have a2 := hag.at 2 (by kernel_rfl)
        simp only [S5, ↓reduceIte, Nat.reduceEqDiff, initF, *] at a2
        clear hag hdep ho
        refine ⟨fun _ => ?_, fun a9 pa da hal => by simp [alL] at hal⟩
        refine relStep_off rfl ?_
        rotate_left
        have e := Option.some.inj ho
        subst e
        have a3 := hag.at 3 (by kernel_rfl)
        simp only [S5, ↓reduceIte, Nat.reduceEqDiff, initF, *] at a3
        clear hag hdep ho
        refine ⟨fun _ => ?_, fun a9 pa da hal => by simp [alL] at hal⟩
        refine relStep_off rfl ?_
        rotate_left
        have e := Option.some.inj ho
        subst e
        clear hag hdep ho
        refine ⟨fun _ => ?_, fun a9 pa da hal => by simp [alL] at hal⟩
        refine relStep_off rfl ?_
        rotate_left
        have e := Option.some.inj ho
        subst e
        clear hag hdep ho
        refine ⟨fun _ => ?_, fun a9 pa da hal => by simp [alL] at hal⟩
        refine relStep_off rfl ?_
        rotate_left
        have e := Option.some.inj ho
        subst e
        have d0 : (gF 91) = .agg (siteC u siteEx26).toArray := hdep ⟨0, .data⟩ (by simp) rfl _ _ rfl rfl
        have d1 : (gF 92) = .agg #[wv] := hdep ⟨1, .data⟩ (by simp) rfl _ _ rfl rfl
        have d2 : (gF 93) = .agg #[hv, rv] := hdep ⟨2, .data⟩ (by simp) rfl _ _ rfl rfl
        have d3 : (gF 94) = .agg #[.slice none 0 0] := hdep ⟨3, .data⟩ (by simp) rfl _ _ rfl rfl
        have d4 : (gF 95) = requestV ⟨1, -1, ⟨1, 1, 0, 0⟩⟩ := hdep ⟨4, .data⟩ (by simp) rfl _ _ rfl rfl
        clear hag hdep ho
        refine ⟨fun _ => ?_, fun a9 pa da hal => by simp [alL] at hal⟩
        refine relStep_off rfl ?_
        rotate_left
        have e := Option.some.inj ho
        subst e
        have d5 : ∃ h r a : Value, (gF 96) = .tuple #[.agg #[h, r], .agg #[a], .agg #[intV 0, .int .u8 0], intV 1] ∧ h.oneCell' = true ∧ r.oneCell' = true ∧ a.oneCell' = true := hdep ⟨5, .data⟩ (by simp) rfl _ _ rfl rfl
        clear hag hdep ho
        refine ⟨fun _ => ?_, fun a9 pa da hal => by simp [alL] at hal⟩
        refine relStep_off rfl ?_
        rotate_left
        have e := Option.some.inj ho
        subst e
        have d6 : ∃ h r a : Value, (gF 90) = .tuple #[.agg #[h, r], .agg #[a], .agg #[intV 0, .int .u8 0], intV 1] ∧ h.oneCell' = true ∧ r.oneCell' = true ∧ a.oneCell' = true := hdep ⟨6, .data⟩ (by simp) rfl _ _ rfl rfl
        obtain ⟨h6, r6, a6, e6, o6, p6, q6⟩ := d6
        clear hag hdep ho
        refine ⟨fun _ => ?_, fun a9 pa da hal => by simp [alL] at hal⟩
        refine relStep_off rfl ?_
        rotate_left
        have e := Option.some.inj ho
        subst e
        have d6 : ∃ h r a : Value, (gF 90) = .tuple #[.agg #[h, r], .agg #[a], .agg #[intV 0, .int .u8 0], intV 1] ∧ h.oneCell' = true ∧ r.oneCell' = true ∧ a.oneCell' = true := hdep ⟨6, .data⟩ (by simp) rfl _ _ rfl rfl
        obtain ⟨h6, r6, a6, e6, o6, p6, q6⟩ := d6
        clear hag hdep ho
        refine ⟨fun _ => ?_, fun a9 pa da hal => by simp [alL] at hal⟩
        refine relStep_off rfl ?_
        rotate_left
        have e := Option.some.inj ho
        subst e
        have d6 : ∃ h r a : Value, (gF 90) = .tuple #[.agg #[h, r], .agg #[a], .agg #[intV 0, .int .u8 0], intV 1] ∧ h.oneCell' = true ∧ r.oneCell' = true ∧ a.oneCell' = true := hdep ⟨6, .data⟩ (by simp) rfl _ _ rfl rfl
        obtain ⟨h6, r6, a6, e6, o6, p6, q6⟩ := d6
        clear hag hdep ho
        refine ⟨fun _ => ?_, fun a9 pa da hal => by simp [alL] at hal⟩
        refine relStep_off rfl ?_
        rotate_left
        have e := Option.some.inj ho
        subst e
        have d6 : ∃ h r a : Value, (gF 90) = .tuple #[.agg #[h, r], .agg #[a], .agg #[intV 0, .int .u8 0], intV 1] ∧ h.oneCell' = true ∧ r.oneCell' = true ∧ a.oneCell' = true := hdep ⟨6, .data⟩ (by simp) rfl _ _ rfl rfl
        obtain ⟨h6, r6, a6, e6, o6, p6, q6⟩ := d6
        clear hag hdep ho
        refine ⟨fun _ => ?_, fun a9 pa da hal => by simp [alL] at hal⟩
        refine relStep_off rfl ?_
        rotate_left
        have e := Option.some.inj ho
        subst e
        clear hag hdep ho
        refine ⟨fun _ => ?_, fun a9 pa da hal => by simp [alL] at hal⟩
        refine relStep_off rfl ?_
        rotate_left
        have e := Option.some.inj ho
        subst e
        clear hag hdep ho
        refine ⟨fun _ => ?_, fun a9 pa da hal => by simp [alL] at hal⟩
        refine relStep_off rfl ?_
        rotate_left
        have e := Option.some.inj ho
        subst e
        clear hag hdep ho
        refine ⟨fun _ => ?_, fun a9 pa da hal => by simp [alL] at hal⟩
        refine relStep_off rfl ?_
        rotate_left
        have e := Option.some.inj ho
        subst e
        have d11 : ∃ b, (gF 21) = .pointer (some ⟨b, 0, none⟩) ∧ wz8.heap.size ≤ b ∧ ((S9 11) = false → Blk w9 b 36 [.slice none 0 0, .slice none 0 0]) ∧ ((S9 11) = true → True) := hdep ⟨11, .data⟩ (by simp) rfl _ _ rfl rfl
        obtain ⟨b11, e11, q11, hz11, _⟩ := d11
        have d7 : ∃ h r : Value, (gF 97) = .agg #[h, r] ∧ h.oneCell' = true ∧ r.oneCell' = true := hdep ⟨7, .data⟩ (by simp) rfl _ _ rfl rfl
        obtain ⟨h7, r7, e7, o7, p7⟩ := d7
        clear hag hdep ho
        refine ⟨fun h => by simp [alL] at h, fun a9 pa da hal hS9 hpa hda => ?_⟩
        obtain rfl : 11 = a9 := by simpa [alL] using hal
        obtain rfl := Option.some.inj hpa
        obtain rfl := Option.some.inj hda
        have hz := hz11 hS9
        clear hal hpa hda hz11
        refine relStep_off rfl ?_
        rotate_left
        have e := Option.some.inj ho
        subst e
        have d12 : ∃ b, (gF 22) = .pointer (some ⟨b, 0, none⟩) ∧ wz8.heap.size ≤ b ∧ ((S9 12) = false → Blk w9 b 39 [.slice none 0 0]) ∧ ((S9 12) = true → True) := hdep ⟨12, .data⟩ (by simp) rfl _ _ rfl rfl
        obtain ⟨b12, e12, q12, hz12, _⟩ := d12
        have d8 : ∃ a : Value, (gF 98) = .agg #[a] ∧ a.oneCell' = true := hdep ⟨8, .data⟩ (by simp) rfl _ _ rfl rfl
        obtain ⟨a8, e8, q8⟩ := d8
        clear hag hdep ho
        refine ⟨fun h => by simp [alL] at h, fun a9 pa da hal hS9 hpa hda => ?_⟩
        obtain rfl : 12 = a9 := by simpa [alL] using hal
        obtain rfl := Option.some.inj hpa
        obtain rfl := Option.some.inj hda
        have hz := hz12 hS9
        clear hal hpa hda hz12
        refine relStep_off rfl ?_
        rotate_left
        have e := Option.some.inj ho
        subst e
        have d13 : ∃ b, (gF 23) = .pointer (some ⟨b, 0, none⟩) ∧ wz8.heap.size ≤ b ∧ ((S9 13) = false → Blk w9 b 50 [intV 0, .int .u8 0]) ∧ ((S9 13) = true → True) := hdep ⟨13, .data⟩ (by simp) rfl _ _ rfl rfl
        obtain ⟨b13, e13, q13, hz13, _⟩ := d13
        have d9 : (gF 99) = .agg #[intV 0, .int .u8 0] := hdep ⟨9, .data⟩ (by simp) rfl _ _ rfl rfl
        clear hag hdep ho
        refine ⟨fun h => by simp [alL] at h, fun a9 pa da hal hS9 hpa hda => ?_⟩
        obtain rfl : 13 = a9 := by simpa [alL] using hal
        obtain rfl := Option.some.inj hpa
        obtain rfl := Option.some.inj hda
        have hz := hz13 hS9
        clear hal hpa hda hz13
        refine relStep_off rfl ?_
        rotate_left
        · omega
        all_goals (repeat' first
    | ((with_reducible refine at_row ?_); refine row1_k (by rfl) (by decide) fun _ _ _ _ _ _ _ => ?_)
    | with_reducible first | refine alloc_k fun _ _ _ _ _ _ => ?_ | refine row_k fun _ _ _ _ _ _ => ?_ | refine fork (fun _ => ?_) fun _ => ?_ | refine forkp (fun _ => ?_) fun _ => ?_ | refine forke (fun _ => ?_) fun _ _ => ?_ | refine tail_k fun _ _ _ => ?_ | refine ext_k fun _ _ _ => ?_ | refine need_a ?_ | refine st_agg (by kernel_rfl) rfl (by simp only [natV, intV, S3, *]) fun _ _ _ _ => ?_ | refine wpd_q_a ?_
    | ((with_reducible refine at_f 26 ?_); refine ret_k (law26starts (id := 1) (lease := -1) (service := 0) (host := 1)) fun _ _ _ => ?_)
    | simp (maxDischargeDepth := 3) only [↓X, ↓Y, ↓Q, S1, ↓reduceIte, Nat.reduceEqDiff, Nat.reduceAdd, Int.reduceLT, Int.reduceLE, Int.reduceNeg, Int.reduceBEq, Int.reduceBNe, Int.reduceEq, Nat.reduceLeDiff, Nat.reduceMul, Nat.reduceLT, natV, intV, putAt, idxOk, flatP, *, siteC]
    | simp (singlePass := true) (maxDischargeDepth := 99) only [*, S2, Nat.reduceLT, siteC])
        all_goals first
          | (refine CallsV.mono (hand26 ⟨1, -1, ⟨1, 1, 0, 0⟩⟩ n9 hsl (hS _ FR) (hW _ FR) (hX _ FR) z9 (Sl.nil _ 0 _ _) kn26_b FR FR FR (Nat.zero_le _) (by decide)) fun v w10 hh => ⟨hh.1, ?_⟩; obtain ⟨v0, a, rfl, ⟨h1, r1, rfl, o1, o2⟩, oa⟩ := hh.2; exact ⟨_, _, _, rfl, o1.one, o2.one, oa.one⟩)
          | (exact d5)
          | (exact ⟨_, _, rfl, o6, p6⟩)
          | (exact ⟨_, rfl, q6⟩)
          | (rename_i b10 w10 n10 k10 s10 q10; exact ⟨_, rfl, FR, fun _ => k10.2.1 _ k10.2.2.1, fun h => absurd h (by decide)⟩)
          | (refine stT_agg (w0 := w9) (vs := [h7, r7]) hz rfl (by kernel_rfl) rfl (by simp [o7, p7]) fun w10 hb10 hc => ⟨b11, hc, q11, ⟨b11, (by first | exact e11 | rfl), q11, fun h => absurd h (by decide), fun _ => trivial⟩, ?_⟩
             intro iI s v hne hR
             match iI, hR with
             | 0, h | 1, h | 2, h | 3, h | 4, h | 9, h | 10, h | 14, h | 15, h | 16, h => exact h
             | 5, h => exact h
             | 6, h => exact h
             | 7, h => exact h
             | 8, h => exact h
             | 11, _ => exact absurd rfl hne
             | 12, ⟨b, e, h1, h2, h3⟩ => exact ⟨b, e, h1, fun hs => Blk.fr (h2 hs) hz hc (by first | exact .inl (by decide) | exact .inr (by simp [natV, intV])), fun hs => (fun h => trivial) (h3 hs)⟩
             | 13, ⟨b, e, h1, h2, h3⟩ => exact ⟨b, e, h1, fun hs => Blk.fr (h2 hs) hz hc (by first | exact .inl (by decide) | exact .inr (by simp [natV, intV])), fun hs => (fun h => trivial) (h3 hs)⟩)
          | (refine stT_agg (w0 := w9) (vs := [a8]) hz rfl (by kernel_rfl) rfl (by simp [q8]) fun w10 hb10 hc => ⟨b12, hc, q12, ⟨b12, (by first | exact e12 | rfl), q12, fun h => absurd h (by decide), fun _ => trivial⟩, ?_⟩
             intro iI s v hne hR
             match iI, hR with
             | 0, h | 1, h | 2, h | 3, h | 4, h | 9, h | 10, h | 14, h | 15, h | 16, h => exact h
             | 5, h => exact h
             | 6, h => exact h
             | 7, h => exact h
             | 8, h => exact h
             | 11, ⟨b, e, h1, h2, h3⟩ => exact ⟨b, e, h1, fun hs => Blk.fr (h2 hs) hz hc (by first | exact .inl (by decide) | exact .inr (by simp [natV, intV])), fun hs => (fun h => trivial) (h3 hs)⟩
             | 12, _ => exact absurd rfl hne
             | 13, ⟨b, e, h1, h2, h3⟩ => exact ⟨b, e, h1, fun hs => Blk.fr (h2 hs) hz hc (by first | exact .inl (by decide) | exact .inr (by simp [natV, intV])), fun hs => (fun h => trivial) (h3 hs)⟩)
          | (refine stT_agg (w0 := w9) (vs := [intV 0, .int .u8 0]) hz rfl (by kernel_rfl) rfl (by simp [intV, one_int]) fun w10 hb10 hc => ⟨b13, hc, q13, ⟨b13, (by first | exact e13 | rfl), q13, fun h => absurd h (by decide), fun _ => trivial⟩, ?_⟩
             intro iI s v hne hR
             match iI, hR with
             | 0, h | 1, h | 2, h | 3, h | 4, h | 9, h | 10, h | 14, h | 15, h | 16, h => exact h
             | 5, h => exact h
             | 6, h => exact h
             | 7, h => exact h
             | 8, h => exact h
             | 11, ⟨b, e, h1, h2, h3⟩ => exact ⟨b, e, h1, fun hs => Blk.fr (h2 hs) hz hc (by first | exact .inl (by decide) | exact .inr (by simp [natV, intV])), fun hs => (fun h => trivial) (h3 hs)⟩
             | 12, ⟨b, e, h1, h2, h3⟩ => exact ⟨b, e, h1, fun hs => Blk.fr (h2 hs) hz hc (by first | exact .inl (by decide) | exact .inr (by simp [natV, intV])), fun hs => (fun h => trivial) (h3 hs)⟩
             | 13, _ => exact absurd rfl hne)
      · intro g9 w9 hx9 hR hag
        have s9 := hx9.st
        have n9 : Now w9 := trivial
        have r9 := Ext.refl w9
        have z9 := hx9.size
        have d10 : (g9 100) = intV 1 := hR 10 _ _ (by decide) rfl rfl
        have a1 := hag.at 1 (by kernel_rfl)
        have a2 := hag.at 2 (by kernel_rfl)
        have a3 := hag.at 3 (by kernel_rfl)
        have a5 := hag.at 5 (by kernel_rfl)
        have a6 := hag.at 6 (by kernel_rfl)
        have a7 := hag.at 7 (by kernel_rfl)
        have a8 := hag.at 8 (by kernel_rfl)
        have a9 := hag.at 9 (by kernel_rfl)
        have a11 := hag.at 11 (by kernel_rfl)
        have a13 := hag.at 13 (by kernel_rfl)
        have a15 := hag.at 15 (by kernel_rfl)
        have a16 := hag.at 16 (by kernel_rfl)
        have a20 := hag.at 20 (by kernel_rfl)
        simp only [S5, ↓reduceIte, Nat.reduceEqDiff, initF, *] at a1 a2 a3 a5 a6 a7 a8 a9 a11 a13 a15 a16 a20
        clear hag hR
        simp only [List.drop_succ_cons, List.drop_zero]
        (repeat' first
    | ((with_reducible refine wpd_at 9 ?_); refine wpd_hold ?_)
    | ((with_reducible refine at_row ?_); refine row1_k (by rfl) (by decide) fun _ _ _ _ _ _ _ => ?_)
    | with_reducible first | refine alloc_k fun _ _ _ _ _ _ => ?_ | refine row_k fun _ _ _ _ _ _ => ?_ | refine fork (fun _ => ?_) fun _ => ?_ | refine forkp (fun _ => ?_) fun _ => ?_ | refine forke (fun _ => ?_) fun _ _ => ?_ | refine tail_k fun _ _ _ => ?_ | refine ext_k fun _ _ _ => ?_ | refine need_a ?_ | refine st_agg (by kernel_rfl) rfl (by simp only [natV, intV, S3, *]) fun _ _ _ _ => ?_ | refine wpd_q_a ?_
    | simp (maxDischargeDepth := 3) only [↓X, ↓Y, ↓Q, S1, ↓reduceIte, Nat.reduceEqDiff, Nat.reduceAdd, Int.reduceLT, Int.reduceLE, Int.reduceNeg, Int.reduceBEq, Int.reduceBNe, Int.reduceEq, Nat.reduceLeDiff, Nat.reduceMul, Nat.reduceLT, natV, intV, putAt, idxOk, flatP, *, siteC]
    | simp (singlePass := true) (maxDischargeDepth := 99) only [*, S2, Nat.reduceLT, siteC])
        obtain ⟨wz9, hw9⟩ : ∃ x, x = w9 := ⟨_, rfl⟩
        subst hw9
        unfold wpdH
        refine wpd_relS 17 [(14, 11), (15, 12), (16, 13)] (fun iI s v w9 => match iI with
          | 0 => v = .agg (siteC u siteEx26).toArray
          | 1 => v = .agg #[wv]
          | 2 => v = .agg #[hv, rv]
          | 3 => v = .agg #[.slice none 0 0]
          | 4 => v = requestV ⟨1, 5, ⟨1, 1, 0, 0⟩⟩
          | 5 => ∃ h r a : Value, v = .tuple #[.agg #[h, r], .agg #[a], .agg #[intV 0, .int .u8 0], intV 1] ∧ h.oneCell' = true ∧ r.oneCell' = true ∧ a.oneCell' = true
          | 6 => ∃ h r a : Value, v = .tuple #[.agg #[h, r], .agg #[a], .agg #[intV 0, .int .u8 0], intV 1] ∧ h.oneCell' = true ∧ r.oneCell' = true ∧ a.oneCell' = true
          | 7 => ∃ h r : Value, v = .agg #[h, r] ∧ h.oneCell' = true ∧ r.oneCell' = true
          | 8 => ∃ a : Value, v = .agg #[a] ∧ a.oneCell' = true
          | 9 => v = .agg #[intV 0, .int .u8 0]
          | 10 => v = intV 1
          | 11 => ∃ b, v = .pointer (some ⟨b, 0, none⟩) ∧ wz9.heap.size ≤ b ∧ (s = false → Blk w9 b 36 [.slice none 0 0, .slice none 0 0]) ∧ (s = true → True)
          | 12 => ∃ b, v = .pointer (some ⟨b, 0, none⟩) ∧ wz9.heap.size ≤ b ∧ (s = false → Blk w9 b 39 [.slice none 0 0]) ∧ (s = true → True)
          | 13 => ∃ b, v = .pointer (some ⟨b, 0, none⟩) ∧ wz9.heap.size ≤ b ∧ (s = false → Blk w9 b 50 [intV 0, .int .u8 0]) ∧ (s = true → True)
          | 14 => True
          | 15 => True
          | 16 => True
          | _ => False) (by kernel_rfl) (by kernel_rfl) (by kernel_rfl) (by kernel_rfl) ?_ ?_ ?_
        · intro iI s v w1 w2 hR hx9
          match iI, hR with
          | 0, h => exact h
          | 1, h => exact h
          | 2, h => exact h
          | 3, h => exact h
          | 4, h => exact h
          | 5, h => exact h
          | 6, h => exact h
          | 7, h => exact h
          | 8, h => exact h
          | 9, h => exact h
          | 10, h => exact h
          | 11, ⟨b, e, h1, h2, h3⟩ => exact ⟨b, e, h1, fun hs => (h2 hs).ext hx9, fun hs => (fun h => trivial) (h3 hs)⟩
          | 12, ⟨b, e, h1, h2, h3⟩ => exact ⟨b, e, h1, fun hs => (h2 hs).ext hx9, fun hs => (fun h => trivial) (h3 hs)⟩
          | 13, ⟨b, e, h1, h2, h3⟩ => exact ⟨b, e, h1, fun hs => (h2 hs).ext hx9, fun hs => (fun h => trivial) (h3 hs)⟩
          | 14, h => exact h
          | 15, h => exact h
          | 16, h => exact h
        · intro iI oO hi ho gF w9 S9 hx9 hdep hag
          have s9 := hx9.st
          have n9 : Now w9 := trivial
          have r9 := Ext.refl w9
          have z9 := hx9.size
          rcases iI with _|_|_|_|_|_|_|_|_|_|_|_|_|_|_|_|_|iI
          have e := Option.some.inj ho
          subst e
          have a1 := hag.at 1 (by kernel_rfl)
          simp only [S5, ↓reduceIte, Nat.reduceEqDiff, initF, *] at a1
          clear hag hdep ho
          refine ⟨fun _ => ?_, fun a9 pa da hal => by simp [alL] at hal⟩
          refine relStep_off rfl ?_
          rotate_left
          have e := Option.some.inj ho
          subst e
          have a2 := hag.at 2 (by kernel_rfl)
          simp only [S5, ↓reduceIte, Nat.reduceEqDiff, initF, *] at a2
          clear hag hdep ho
          refine ⟨fun _ => ?_, fun a9 pa da hal => by simp [alL] at hal⟩
          refine relStep_off rfl ?_
          rotate_left
          have e := Option.some.inj ho
          subst e
          have a3 := hag.at 3 (by kernel_rfl)
          simp only [S5, ↓reduceIte, Nat.reduceEqDiff, initF, *] at a3
          clear hag hdep ho
          refine ⟨fun _ => ?_, fun a9 pa da hal => by simp [alL] at hal⟩
          refine relStep_off rfl ?_
          rotate_left
          have e := Option.some.inj ho
          subst e
          clear hag hdep ho
          refine ⟨fun _ => ?_, fun a9 pa da hal => by simp [alL] at hal⟩
          refine relStep_off rfl ?_
          rotate_left
          have e := Option.some.inj ho
          subst e
          clear hag hdep ho
          refine ⟨fun _ => ?_, fun a9 pa da hal => by simp [alL] at hal⟩
          refine relStep_off rfl ?_
          rotate_left
          have e := Option.some.inj ho
          subst e
          have d0 : (gF 102) = .agg (siteC u siteEx26).toArray := hdep ⟨0, .data⟩ (by simp) rfl _ _ rfl rfl
          have d1 : (gF 103) = .agg #[wv] := hdep ⟨1, .data⟩ (by simp) rfl _ _ rfl rfl
          have d2 : (gF 104) = .agg #[hv, rv] := hdep ⟨2, .data⟩ (by simp) rfl _ _ rfl rfl
          have d3 : (gF 105) = .agg #[.slice none 0 0] := hdep ⟨3, .data⟩ (by simp) rfl _ _ rfl rfl
          have d4 : (gF 106) = requestV ⟨1, 5, ⟨1, 1, 0, 0⟩⟩ := hdep ⟨4, .data⟩ (by simp) rfl _ _ rfl rfl
          clear hag hdep ho
          refine ⟨fun _ => ?_, fun a9 pa da hal => by simp [alL] at hal⟩
          refine relStep_off rfl ?_
          rotate_left
          have e := Option.some.inj ho
          subst e
          have d5 : ∃ h r a : Value, (gF 107) = .tuple #[.agg #[h, r], .agg #[a], .agg #[intV 0, .int .u8 0], intV 1] ∧ h.oneCell' = true ∧ r.oneCell' = true ∧ a.oneCell' = true := hdep ⟨5, .data⟩ (by simp) rfl _ _ rfl rfl
          clear hag hdep ho
          refine ⟨fun _ => ?_, fun a9 pa da hal => by simp [alL] at hal⟩
          refine relStep_off rfl ?_
          rotate_left
          have e := Option.some.inj ho
          subst e
          have d6 : ∃ h r a : Value, (gF 101) = .tuple #[.agg #[h, r], .agg #[a], .agg #[intV 0, .int .u8 0], intV 1] ∧ h.oneCell' = true ∧ r.oneCell' = true ∧ a.oneCell' = true := hdep ⟨6, .data⟩ (by simp) rfl _ _ rfl rfl
          obtain ⟨h6, r6, a6, e6, o6, p6, q6⟩ := d6
          clear hag hdep ho
          refine ⟨fun _ => ?_, fun a9 pa da hal => by simp [alL] at hal⟩
          refine relStep_off rfl ?_
          rotate_left
          have e := Option.some.inj ho
          subst e
          have d6 : ∃ h r a : Value, (gF 101) = .tuple #[.agg #[h, r], .agg #[a], .agg #[intV 0, .int .u8 0], intV 1] ∧ h.oneCell' = true ∧ r.oneCell' = true ∧ a.oneCell' = true := hdep ⟨6, .data⟩ (by simp) rfl _ _ rfl rfl
          obtain ⟨h6, r6, a6, e6, o6, p6, q6⟩ := d6
          clear hag hdep ho
          refine ⟨fun _ => ?_, fun a9 pa da hal => by simp [alL] at hal⟩
          refine relStep_off rfl ?_
          rotate_left
          have e := Option.some.inj ho
          subst e
          have d6 : ∃ h r a : Value, (gF 101) = .tuple #[.agg #[h, r], .agg #[a], .agg #[intV 0, .int .u8 0], intV 1] ∧ h.oneCell' = true ∧ r.oneCell' = true ∧ a.oneCell' = true := hdep ⟨6, .data⟩ (by simp) rfl _ _ rfl rfl
          obtain ⟨h6, r6, a6, e6, o6, p6, q6⟩ := d6
          clear hag hdep ho
          refine ⟨fun _ => ?_, fun a9 pa da hal => by simp [alL] at hal⟩
          refine relStep_off rfl ?_
          rotate_left
          have e := Option.some.inj ho
          subst e
          have d6 : ∃ h r a : Value, (gF 101) = .tuple #[.agg #[h, r], .agg #[a], .agg #[intV 0, .int .u8 0], intV 1] ∧ h.oneCell' = true ∧ r.oneCell' = true ∧ a.oneCell' = true := hdep ⟨6, .data⟩ (by simp) rfl _ _ rfl rfl
          obtain ⟨h6, r6, a6, e6, o6, p6, q6⟩ := d6
          clear hag hdep ho
          refine ⟨fun _ => ?_, fun a9 pa da hal => by simp [alL] at hal⟩
          refine relStep_off rfl ?_
          rotate_left
          have e := Option.some.inj ho
          subst e
          clear hag hdep ho
          refine ⟨fun _ => ?_, fun a9 pa da hal => by simp [alL] at hal⟩
          refine relStep_off rfl ?_
          rotate_left
          have e := Option.some.inj ho
          subst e
          clear hag hdep ho
          refine ⟨fun _ => ?_, fun a9 pa da hal => by simp [alL] at hal⟩
          refine relStep_off rfl ?_
          rotate_left
          have e := Option.some.inj ho
          subst e
          clear hag hdep ho
          refine ⟨fun _ => ?_, fun a9 pa da hal => by simp [alL] at hal⟩
          refine relStep_off rfl ?_
          rotate_left
          have e := Option.some.inj ho
          subst e
          have d11 : ∃ b, (gF 25) = .pointer (some ⟨b, 0, none⟩) ∧ wz9.heap.size ≤ b ∧ ((S9 11) = false → Blk w9 b 36 [.slice none 0 0, .slice none 0 0]) ∧ ((S9 11) = true → True) := hdep ⟨11, .data⟩ (by simp) rfl _ _ rfl rfl
          obtain ⟨b11, e11, q11, hz11, _⟩ := d11
          have d7 : ∃ h r : Value, (gF 108) = .agg #[h, r] ∧ h.oneCell' = true ∧ r.oneCell' = true := hdep ⟨7, .data⟩ (by simp) rfl _ _ rfl rfl
          obtain ⟨h7, r7, e7, o7, p7⟩ := d7
          clear hag hdep ho
          refine ⟨fun h => by simp [alL] at h, fun a9 pa da hal hS9 hpa hda => ?_⟩
          obtain rfl : 11 = a9 := by simpa [alL] using hal
          obtain rfl := Option.some.inj hpa
          obtain rfl := Option.some.inj hda
          have hz := hz11 hS9
          clear hal hpa hda hz11
          refine relStep_off rfl ?_
          rotate_left
          have e := Option.some.inj ho
          subst e
          have d12 : ∃ b, (gF 26) = .pointer (some ⟨b, 0, none⟩) ∧ wz9.heap.size ≤ b ∧ ((S9 12) = false → Blk w9 b 39 [.slice none 0 0]) ∧ ((S9 12) = true → True) := hdep ⟨12, .data⟩ (by simp) rfl _ _ rfl rfl
          obtain ⟨b12, e12, q12, hz12, _⟩ := d12
          have d8 : ∃ a : Value, (gF 109) = .agg #[a] ∧ a.oneCell' = true := hdep ⟨8, .data⟩ (by simp) rfl _ _ rfl rfl
          obtain ⟨a8, e8, q8⟩ := d8
          clear hag hdep ho
          refine ⟨fun h => by simp [alL] at h, fun a9 pa da hal hS9 hpa hda => ?_⟩
          obtain rfl : 12 = a9 := by simpa [alL] using hal
          obtain rfl := Option.some.inj hpa
          obtain rfl := Option.some.inj hda
          have hz := hz12 hS9
          clear hal hpa hda hz12
          refine relStep_off rfl ?_
          rotate_left
          have e := Option.some.inj ho
          subst e
          have d13 : ∃ b, (gF 27) = .pointer (some ⟨b, 0, none⟩) ∧ wz9.heap.size ≤ b ∧ ((S9 13) = false → Blk w9 b 50 [intV 0, .int .u8 0]) ∧ ((S9 13) = true → True) := hdep ⟨13, .data⟩ (by simp) rfl _ _ rfl rfl
          obtain ⟨b13, e13, q13, hz13, _⟩ := d13
          have d9 : (gF 110) = .agg #[intV 0, .int .u8 0] := hdep ⟨9, .data⟩ (by simp) rfl _ _ rfl rfl
          clear hag hdep ho
          refine ⟨fun h => by simp [alL] at h, fun a9 pa da hal hS9 hpa hda => ?_⟩
          obtain rfl : 13 = a9 := by simpa [alL] using hal
          obtain rfl := Option.some.inj hpa
          obtain rfl := Option.some.inj hda
          have hz := hz13 hS9
          clear hal hpa hda hz13
          refine relStep_off rfl ?_
          rotate_left
          · omega
          all_goals (repeat' first
    | ((with_reducible refine at_row ?_); refine row1_k (by rfl) (by decide) fun _ _ _ _ _ _ _ => ?_)
    | with_reducible first | refine alloc_k fun _ _ _ _ _ _ => ?_ | refine row_k fun _ _ _ _ _ _ => ?_ | refine fork (fun _ => ?_) fun _ => ?_ | refine forkp (fun _ => ?_) fun _ => ?_ | refine forke (fun _ => ?_) fun _ _ => ?_ | refine tail_k fun _ _ _ => ?_ | refine ext_k fun _ _ _ => ?_ | refine need_a ?_ | refine st_agg (by kernel_rfl) rfl (by simp only [natV, intV, S3, *]) fun _ _ _ _ => ?_ | refine wpd_q_a ?_
    | ((with_reducible refine at_f 26 ?_); refine ret_k (law26starts (id := 1) (lease := 5) (service := 0) (host := 1)) fun _ _ _ => ?_)
    | simp (maxDischargeDepth := 3) only [↓X, ↓Y, ↓Q, S1, ↓reduceIte, Nat.reduceEqDiff, Nat.reduceAdd, Int.reduceLT, Int.reduceLE, Int.reduceNeg, Int.reduceBEq, Int.reduceBNe, Int.reduceEq, Nat.reduceLeDiff, Nat.reduceMul, Nat.reduceLT, natV, intV, putAt, idxOk, flatP, *, siteC]
    | simp (singlePass := true) (maxDischargeDepth := 99) only [*, S2, Nat.reduceLT, siteC])
          all_goals first
            | (refine CallsV.mono (hand26 ⟨1, 5, ⟨1, 1, 0, 0⟩⟩ n9 hsl (hS _ FR) (hW _ FR) (hX _ FR) z9 (Sl.nil _ 0 _ _) kn26_c FR FR FR (Nat.zero_le _) (by decide)) fun v w10 hh => ⟨hh.1, ?_⟩; obtain ⟨v0, a, rfl, ⟨h1, r1, rfl, o1, o2⟩, oa⟩ := hh.2; exact ⟨_, _, _, rfl, o1.one, o2.one, oa.one⟩)
            | (exact d5)
            | (exact ⟨_, _, rfl, o6, p6⟩)
            | (exact ⟨_, rfl, q6⟩)
            | (rename_i b10 w10 n10 k10 s10 q10; exact ⟨_, rfl, FR, fun _ => k10.2.1 _ k10.2.2.1, fun h => absurd h (by decide)⟩)
            | (refine stT_agg (w0 := w9) (vs := [h7, r7]) hz rfl (by kernel_rfl) rfl (by simp [o7, p7]) fun w10 hb10 hc => ⟨b11, hc, q11, ⟨b11, (by first | exact e11 | rfl), q11, fun h => absurd h (by decide), fun _ => trivial⟩, ?_⟩
               intro iI s v hne hR
               match iI, hR with
               | 0, h | 1, h | 2, h | 3, h | 4, h | 9, h | 10, h | 14, h | 15, h | 16, h => exact h
               | 5, h => exact h
               | 6, h => exact h
               | 7, h => exact h
               | 8, h => exact h
               | 11, _ => exact absurd rfl hne
               | 12, ⟨b, e, h1, h2, h3⟩ => exact ⟨b, e, h1, fun hs => Blk.fr (h2 hs) hz hc (by first | exact .inl (by decide) | exact .inr (by simp [natV, intV])), fun hs => (fun h => trivial) (h3 hs)⟩
               | 13, ⟨b, e, h1, h2, h3⟩ => exact ⟨b, e, h1, fun hs => Blk.fr (h2 hs) hz hc (by first | exact .inl (by decide) | exact .inr (by simp [natV, intV])), fun hs => (fun h => trivial) (h3 hs)⟩)
            | (refine stT_agg (w0 := w9) (vs := [a8]) hz rfl (by kernel_rfl) rfl (by simp [q8]) fun w10 hb10 hc => ⟨b12, hc, q12, ⟨b12, (by first | exact e12 | rfl), q12, fun h => absurd h (by decide), fun _ => trivial⟩, ?_⟩
               intro iI s v hne hR
               match iI, hR with
               | 0, h | 1, h | 2, h | 3, h | 4, h | 9, h | 10, h | 14, h | 15, h | 16, h => exact h
               | 5, h => exact h
               | 6, h => exact h
               | 7, h => exact h
               | 8, h => exact h
               | 11, ⟨b, e, h1, h2, h3⟩ => exact ⟨b, e, h1, fun hs => Blk.fr (h2 hs) hz hc (by first | exact .inl (by decide) | exact .inr (by simp [natV, intV])), fun hs => (fun h => trivial) (h3 hs)⟩
               | 12, _ => exact absurd rfl hne
               | 13, ⟨b, e, h1, h2, h3⟩ => exact ⟨b, e, h1, fun hs => Blk.fr (h2 hs) hz hc (by first | exact .inl (by decide) | exact .inr (by simp [natV, intV])), fun hs => (fun h => trivial) (h3 hs)⟩)
            | (refine stT_agg (w0 := w9) (vs := [intV 0, .int .u8 0]) hz rfl (by kernel_rfl) rfl (by simp [intV, one_int]) fun w10 hb10 hc => ⟨b13, hc, q13, ⟨b13, (by first | exact e13 | rfl), q13, fun h => absurd h (by decide), fun _ => trivial⟩, ?_⟩
               intro iI s v hne hR
               match iI, hR with
               | 0, h | 1, h | 2, h | 3, h | 4, h | 9, h | 10, h | 14, h | 15, h | 16, h => exact h
               | 5, h => exact h
               | 6, h => exact h
               | 7, h => exact h
               | 8, h => exact h
               | 11, ⟨b, e, h1, h2, h3⟩ => exact ⟨b, e, h1, fun hs => Blk.fr (h2 hs) hz hc (by first | exact .inl (by decide) | exact .inr (by simp [natV, intV])), fun hs => (fun h => trivial) (h3 hs)⟩
               | 12, ⟨b, e, h1, h2, h3⟩ => exact ⟨b, e, h1, fun hs => Blk.fr (h2 hs) hz hc (by first | exact .inl (by decide) | exact .inr (by simp [natV, intV])), fun hs => (fun h => trivial) (h3 hs)⟩
               | 13, _ => exact absurd rfl hne)
        · intro g9 w9 hx9 hR hag
          have s9 := hx9.st
          have n9 : Now w9 := trivial
          have r9 := Ext.refl w9
          have z9 := hx9.size
          have d10 : (g9 111) = intV 1 := hR 10 _ _ (by decide) rfl rfl
          have a1 := hag.at 1 (by kernel_rfl)
          have a2 := hag.at 2 (by kernel_rfl)
          have a3 := hag.at 3 (by kernel_rfl)
          have a5 := hag.at 5 (by kernel_rfl)
          have a6 := hag.at 6 (by kernel_rfl)
          have a7 := hag.at 7 (by kernel_rfl)
          have a8 := hag.at 8 (by kernel_rfl)
          have a9 := hag.at 9 (by kernel_rfl)
          have a11 := hag.at 11 (by kernel_rfl)
          have a13 := hag.at 13 (by kernel_rfl)
          have a15 := hag.at 15 (by kernel_rfl)
          have a16 := hag.at 16 (by kernel_rfl)
          have a20 := hag.at 20 (by kernel_rfl)
          have a24 := hag.at 24 (by kernel_rfl)
          simp only [S5, ↓reduceIte, Nat.reduceEqDiff, initF, *] at a1 a2 a3 a5 a6 a7 a8 a9 a11 a13 a15 a16 a20 a24
          clear hag hR
          simp only [List.drop_succ_cons, List.drop_zero]
          (repeat' first
    | ((with_reducible refine wpd_at 10 ?_); refine wpd_hold ?_)
    | ((with_reducible refine at_row ?_); refine row1_k (by rfl) (by decide) fun _ _ _ _ _ _ _ => ?_)
    | with_reducible first | refine alloc_k fun _ _ _ _ _ _ => ?_ | refine row_k fun _ _ _ _ _ _ => ?_ | refine fork (fun _ => ?_) fun _ => ?_ | refine forkp (fun _ => ?_) fun _ => ?_ | refine forke (fun _ => ?_) fun _ _ => ?_ | refine tail_k fun _ _ _ => ?_ | refine ext_k fun _ _ _ => ?_ | refine need_a ?_ | refine st_agg (by kernel_rfl) rfl (by simp only [natV, intV, S3, *]) fun _ _ _ _ => ?_ | refine wpd_q_a ?_
    | simp (maxDischargeDepth := 3) only [↓X, ↓Y, ↓Q, S1, ↓reduceIte, Nat.reduceEqDiff, Nat.reduceAdd, Int.reduceLT, Int.reduceLE, Int.reduceNeg, Int.reduceBEq, Int.reduceBNe, Int.reduceEq, Nat.reduceLeDiff, Nat.reduceMul, Nat.reduceLT, natV, intV, putAt, idxOk, flatP, *, siteC]
    | simp (singlePass := true) (maxDischargeDepth := 99) only [*, S2, Nat.reduceLT, siteC])
          obtain ⟨wza, hw9⟩ : ∃ x, x = w9 := ⟨_, rfl⟩
          subst hw9
          unfold wpdH
          refine wpd_relS 18 [(15, 12), (16, 13), (17, 14)] (fun iI s v w9 => match iI with
            | 0 => v = .agg (siteC u siteEx26).toArray
            | 1 => v = .agg #[wv]
            | 2 => v = .agg #[hv, rv]
            | 3 => ∃ b, v = .slice (some ⟨b, 0, none⟩) 400 400 ∧ Blk w9 b 50 ((List.replicate 400 [Value.int .i64 0, .int .u8 0]).flatten)
            | 4 => ∃ b, v = .agg #[.slice (some ⟨b, 0, none⟩) 400 400] ∧ Blk w9 b 50 ((List.replicate 400 [Value.int .i64 0, .int .u8 0]).flatten)
            | 5 => v = requestV ⟨1, 5, ⟨1, 1, 0, 0⟩⟩
            | 6 => ∃ h r a : Value, v = .tuple #[.agg #[h, r], .agg #[a], .agg #[intV 0, .int .u8 0], intV 9] ∧ h.oneCell' = true ∧ r.oneCell' = true ∧ a.oneCell' = true
            | 7 => ∃ h r a : Value, v = .tuple #[.agg #[h, r], .agg #[a], .agg #[intV 0, .int .u8 0], intV 9] ∧ h.oneCell' = true ∧ r.oneCell' = true ∧ a.oneCell' = true
            | 8 => ∃ h r : Value, v = .agg #[h, r] ∧ h.oneCell' = true ∧ r.oneCell' = true
            | 9 => ∃ a : Value, v = .agg #[a] ∧ a.oneCell' = true
            | 10 => v = .agg #[intV 0, .int .u8 0]
            | 11 => v = intV 9
            | 12 => ∃ b, v = .pointer (some ⟨b, 0, none⟩) ∧ wza.heap.size ≤ b ∧ (s = false → Blk w9 b 36 [.slice none 0 0, .slice none 0 0]) ∧ (s = true → True)
            | 13 => ∃ b, v = .pointer (some ⟨b, 0, none⟩) ∧ wza.heap.size ≤ b ∧ (s = false → Blk w9 b 39 [.slice none 0 0]) ∧ (s = true → True)
            | 14 => ∃ b, v = .pointer (some ⟨b, 0, none⟩) ∧ wza.heap.size ≤ b ∧ (s = false → Blk w9 b 50 [intV 0, .int .u8 0]) ∧ (s = true → True)
            | 15 => True
            | 16 => True
            | 17 => True
            | _ => False) (by kernel_rfl) (by kernel_rfl) (by kernel_rfl) (by kernel_rfl) ?_ ?_ ?_
          · intro iI s v w1 w2 hR hx9
            match iI, hR with
            | 0, h => exact h
            | 1, h => exact h
            | 2, h => exact h
            | 3, h => exact (let ⟨b, e, k⟩ := h; ⟨b, e, k.ext hx9⟩)
            | 4, h => exact (let ⟨b, e, k⟩ := h; ⟨b, e, k.ext hx9⟩)
            | 5, h => exact h
            | 6, h => exact h
            | 7, h => exact h
            | 8, h => exact h
            | 9, h => exact h
            | 10, h => exact h
            | 11, h => exact h
            | 12, ⟨b, e, h1, h2, h3⟩ => exact ⟨b, e, h1, fun hs => (h2 hs).ext hx9, fun hs => (fun h => trivial) (h3 hs)⟩
            | 13, ⟨b, e, h1, h2, h3⟩ => exact ⟨b, e, h1, fun hs => (h2 hs).ext hx9, fun hs => (fun h => trivial) (h3 hs)⟩
            | 14, ⟨b, e, h1, h2, h3⟩ => exact ⟨b, e, h1, fun hs => (h2 hs).ext hx9, fun hs => (fun h => trivial) (h3 hs)⟩
            | 15, h => exact h
            | 16, h => exact h
            | 17, h => exact h
          · intro iI oO hi ho gF w9 S9 hx9 hdep hag
            have s9 := hx9.st
            have n9 : Now w9 := trivial
            have r9 := Ext.refl w9
            have z9 := hx9.size
            rcases iI with _|_|_|_|_|_|_|_|_|_|_|_|_|_|_|_|_|_|iI
            have e := Option.some.inj ho
            subst e
            have a1 := hag.at 1 (by kernel_rfl)
            simp only [S5, ↓reduceIte, Nat.reduceEqDiff, initF, *] at a1
            clear hag hdep ho
            refine ⟨fun _ => ?_, fun a9 pa da hal => by simp [alL] at hal⟩
            refine relStep_off rfl ?_
            rotate_left
            have e := Option.some.inj ho
            subst e
            have a2 := hag.at 2 (by kernel_rfl)
            simp only [S5, ↓reduceIte, Nat.reduceEqDiff, initF, *] at a2
            clear hag hdep ho
            refine ⟨fun _ => ?_, fun a9 pa da hal => by simp [alL] at hal⟩
            refine relStep_off rfl ?_
            rotate_left
            have e := Option.some.inj ho
            subst e
            have a3 := hag.at 3 (by kernel_rfl)
            simp only [S5, ↓reduceIte, Nat.reduceEqDiff, initF, *] at a3
            clear hag hdep ho
            refine ⟨fun _ => ?_, fun a9 pa da hal => by simp [alL] at hal⟩
            refine relStep_off rfl ?_
            rotate_left
            have e := Option.some.inj ho
            subst e
            clear hag hdep ho
            refine ⟨fun _ => ?_, fun a9 pa da hal => by simp [alL] at hal⟩
            refine relStep_off rfl ?_
            rotate_left
            have e := Option.some.inj ho
            subst e
            have d3 : ∃ b, (gF 116) = .slice (some ⟨b, 0, none⟩) 400 400 ∧ Blk w9 b 50 ((List.replicate 400 [Value.int .i64 0, .int .u8 0]).flatten) := hdep ⟨3, .data⟩ (by simp) rfl _ _ rfl rfl
            obtain ⟨b3, e3, k3⟩ := d3
            clear hag hdep ho
            refine ⟨fun _ => ?_, fun a9 pa da hal => by simp [alL] at hal⟩
            refine relStep_off rfl ?_
            rotate_left
            have e := Option.some.inj ho
            subst e
            clear hag hdep ho
            refine ⟨fun _ => ?_, fun a9 pa da hal => by simp [alL] at hal⟩
            refine relStep_off rfl ?_
            rotate_left
            have e := Option.some.inj ho
            subst e
            have d0 : (gF 113) = .agg (siteC u siteEx26).toArray := hdep ⟨0, .data⟩ (by simp) rfl _ _ rfl rfl
            have d1 : (gF 114) = .agg #[wv] := hdep ⟨1, .data⟩ (by simp) rfl _ _ rfl rfl
            have d2 : (gF 115) = .agg #[hv, rv] := hdep ⟨2, .data⟩ (by simp) rfl _ _ rfl rfl
            have d4 : ∃ b, (gF 117) = .agg #[.slice (some ⟨b, 0, none⟩) 400 400] ∧ Blk w9 b 50 ((List.replicate 400 [Value.int .i64 0, .int .u8 0]).flatten) := hdep ⟨4, .data⟩ (by simp) rfl _ _ rfl rfl
            obtain ⟨b4, e4, k4⟩ := d4
            have d5 : (gF 118) = requestV ⟨1, 5, ⟨1, 1, 0, 0⟩⟩ := hdep ⟨5, .data⟩ (by simp) rfl _ _ rfl rfl
            clear hag hdep ho
            refine ⟨fun _ => ?_, fun a9 pa da hal => by simp [alL] at hal⟩
            refine relStep_off rfl ?_
            rotate_left
            have e := Option.some.inj ho
            subst e
            have d6 : ∃ h r a : Value, (gF 119) = .tuple #[.agg #[h, r], .agg #[a], .agg #[intV 0, .int .u8 0], intV 9] ∧ h.oneCell' = true ∧ r.oneCell' = true ∧ a.oneCell' = true := hdep ⟨6, .data⟩ (by simp) rfl _ _ rfl rfl
            clear hag hdep ho
            refine ⟨fun _ => ?_, fun a9 pa da hal => by simp [alL] at hal⟩
            refine relStep_off rfl ?_
            rotate_left
            have e := Option.some.inj ho
            subst e
            have d7 : ∃ h r a : Value, (gF 112) = .tuple #[.agg #[h, r], .agg #[a], .agg #[intV 0, .int .u8 0], intV 9] ∧ h.oneCell' = true ∧ r.oneCell' = true ∧ a.oneCell' = true := hdep ⟨7, .data⟩ (by simp) rfl _ _ rfl rfl
            obtain ⟨h6, r6, a6, e6, o6, p6, q6⟩ := d7
            clear hag hdep ho
            refine ⟨fun _ => ?_, fun a9 pa da hal => by simp [alL] at hal⟩
            refine relStep_off rfl ?_
            rotate_left
            have e := Option.some.inj ho
            subst e
            have d7 : ∃ h r a : Value, (gF 112) = .tuple #[.agg #[h, r], .agg #[a], .agg #[intV 0, .int .u8 0], intV 9] ∧ h.oneCell' = true ∧ r.oneCell' = true ∧ a.oneCell' = true := hdep ⟨7, .data⟩ (by simp) rfl _ _ rfl rfl
            obtain ⟨h6, r6, a6, e6, o6, p6, q6⟩ := d7
            clear hag hdep ho
            refine ⟨fun _ => ?_, fun a9 pa da hal => by simp [alL] at hal⟩
            refine relStep_off rfl ?_
            rotate_left
            have e := Option.some.inj ho
            subst e
            have d7 : ∃ h r a : Value, (gF 112) = .tuple #[.agg #[h, r], .agg #[a], .agg #[intV 0, .int .u8 0], intV 9] ∧ h.oneCell' = true ∧ r.oneCell' = true ∧ a.oneCell' = true := hdep ⟨7, .data⟩ (by simp) rfl _ _ rfl rfl
            obtain ⟨h6, r6, a6, e6, o6, p6, q6⟩ := d7
            clear hag hdep ho
            refine ⟨fun _ => ?_, fun a9 pa da hal => by simp [alL] at hal⟩
            refine relStep_off rfl ?_
            rotate_left
            have e := Option.some.inj ho
            subst e
            have d7 : ∃ h r a : Value, (gF 112) = .tuple #[.agg #[h, r], .agg #[a], .agg #[intV 0, .int .u8 0], intV 9] ∧ h.oneCell' = true ∧ r.oneCell' = true ∧ a.oneCell' = true := hdep ⟨7, .data⟩ (by simp) rfl _ _ rfl rfl
            obtain ⟨h6, r6, a6, e6, o6, p6, q6⟩ := d7
            clear hag hdep ho
            refine ⟨fun _ => ?_, fun a9 pa da hal => by simp [alL] at hal⟩
            refine relStep_off rfl ?_
            rotate_left
            have e := Option.some.inj ho
            subst e
            clear hag hdep ho
            refine ⟨fun _ => ?_, fun a9 pa da hal => by simp [alL] at hal⟩
            refine relStep_off rfl ?_
            rotate_left
            have e := Option.some.inj ho
            subst e
            clear hag hdep ho
            refine ⟨fun _ => ?_, fun a9 pa da hal => by simp [alL] at hal⟩
            refine relStep_off rfl ?_
            rotate_left
            have e := Option.some.inj ho
            subst e
            clear hag hdep ho
            refine ⟨fun _ => ?_, fun a9 pa da hal => by simp [alL] at hal⟩
            refine relStep_off rfl ?_
            rotate_left
            have e := Option.some.inj ho
            subst e
            have d12 : ∃ b, (gF 29) = .pointer (some ⟨b, 0, none⟩) ∧ wza.heap.size ≤ b ∧ ((S9 12) = false → Blk w9 b 36 [.slice none 0 0, .slice none 0 0]) ∧ ((S9 12) = true → True) := hdep ⟨12, .data⟩ (by simp) rfl _ _ rfl rfl
            obtain ⟨b12, e12, q12, hz12, _⟩ := d12
            have d8 : ∃ h r : Value, (gF 120) = .agg #[h, r] ∧ h.oneCell' = true ∧ r.oneCell' = true := hdep ⟨8, .data⟩ (by simp) rfl _ _ rfl rfl
            obtain ⟨h7, r7, e7, o7, p7⟩ := d8
            clear hag hdep ho
            refine ⟨fun h => by simp [alL] at h, fun a9 pa da hal hS9 hpa hda => ?_⟩
            obtain rfl : 12 = a9 := by simpa [alL] using hal
            obtain rfl := Option.some.inj hpa
            obtain rfl := Option.some.inj hda
            have hz := hz12 hS9
            clear hal hpa hda hz12
            refine relStep_off rfl ?_
            rotate_left
            have e := Option.some.inj ho
            subst e
            have d13 : ∃ b, (gF 30) = .pointer (some ⟨b, 0, none⟩) ∧ wza.heap.size ≤ b ∧ ((S9 13) = false → Blk w9 b 39 [.slice none 0 0]) ∧ ((S9 13) = true → True) := hdep ⟨13, .data⟩ (by simp) rfl _ _ rfl rfl
            obtain ⟨b13, e13, q13, hz13, _⟩ := d13
            have d9 : ∃ a : Value, (gF 121) = .agg #[a] ∧ a.oneCell' = true := hdep ⟨9, .data⟩ (by simp) rfl _ _ rfl rfl
            obtain ⟨a8, e8, q8⟩ := d9
            clear hag hdep ho
            refine ⟨fun h => by simp [alL] at h, fun a9 pa da hal hS9 hpa hda => ?_⟩
            obtain rfl : 13 = a9 := by simpa [alL] using hal
            obtain rfl := Option.some.inj hpa
            obtain rfl := Option.some.inj hda
            have hz := hz13 hS9
            clear hal hpa hda hz13
            refine relStep_off rfl ?_
            rotate_left
            have e := Option.some.inj ho
            subst e
            have d14 : ∃ b, (gF 31) = .pointer (some ⟨b, 0, none⟩) ∧ wza.heap.size ≤ b ∧ ((S9 14) = false → Blk w9 b 50 [intV 0, .int .u8 0]) ∧ ((S9 14) = true → True) := hdep ⟨14, .data⟩ (by simp) rfl _ _ rfl rfl
            obtain ⟨b14, e14, q14, hz14, _⟩ := d14
            have d10 : (gF 122) = .agg #[intV 0, .int .u8 0] := hdep ⟨10, .data⟩ (by simp) rfl _ _ rfl rfl
            clear hag hdep ho
            refine ⟨fun h => by simp [alL] at h, fun a9 pa da hal hS9 hpa hda => ?_⟩
            obtain rfl : 14 = a9 := by simpa [alL] using hal
            obtain rfl := Option.some.inj hpa
            obtain rfl := Option.some.inj hda
            have hz := hz14 hS9
            clear hal hpa hda hz14
            refine relStep_off rfl ?_
            rotate_left
            · omega
            all_goals (repeat' first
    | ((with_reducible refine at_row ?_); refine row1_k (by rfl) (by decide) fun _ _ _ _ _ _ _ => ?_)
    | with_reducible first | refine alloc_k fun _ _ _ _ _ _ => ?_ | refine row_k fun _ _ _ _ _ _ => ?_ | refine fork (fun _ => ?_) fun _ => ?_ | refine forkp (fun _ => ?_) fun _ => ?_ | refine forke (fun _ => ?_) fun _ _ => ?_ | refine tail_k fun _ _ _ => ?_ | refine ext_k fun _ _ _ => ?_ | refine need_a ?_ | refine st_agg (by kernel_rfl) rfl (by simp only [natV, intV, S3, *]) fun _ _ _ _ => ?_ | refine wpd_q_a ?_
    | ((with_reducible refine at_f 26 ?_); refine ret_k (law26starts (id := 1) (lease := 5) (service := 0) (host := 1)) fun _ _ _ => ?_)
    | simp (maxDischargeDepth := 3) only [↓X, ↓Y, ↓Q, S1, ↓reduceIte, Nat.reduceEqDiff, Nat.reduceAdd, Int.reduceLT, Int.reduceLE, Int.reduceNeg, Int.reduceBEq, Int.reduceBNe, Int.reduceEq, Nat.reduceLeDiff, Nat.reduceMul, Nat.reduceLT, natV, intV, putAt, idxOk, flatP, *, siteC]
    | simp (singlePass := true) (maxDischargeDepth := 99) only [*, S2, Nat.reduceLT, siteC])
            all_goals first
              | (refine mk_own_k (n := 400) (z := .agg #[.int .i64 0, .int .u8 0]) rfl (by decide) (by decide) (by decide) fun g1 w1 n1 hb1 s1 nw1 => ?_; exact ⟨s1.2.2.1 _ r9, _, rfl, hb1⟩)
              | (exact ⟨_, rfl, k3⟩)
              | (refine CallsV.mono (hand26 (l := List.replicate 400 ⟨0, 0⟩) ⟨1, 5, ⟨1, 1, 0, 0⟩⟩ n9 hsl (hS _ FR) (hW _ FR) (hX _ FR) z9 (row_of (l := List.replicate 400 [Value.int .i64 0, .int .u8 0]) k4 rfl (by simp) (fun c hc => by rw [List.eq_of_mem_replicate hc]; rfl) (by simp)) kn26_d FR FR FR (Nat.le_refl _) (by simp)) fun v w10 hh => ⟨hh.1, ?_⟩; obtain ⟨v0, a, rfl, ⟨h1, r1, rfl, o1, o2⟩, oa⟩ := hh.2; exact ⟨_, _, _, rfl, o1.one, o2.one, oa.one⟩)
              | (exact d6)
              | (exact ⟨_, _, rfl, o6, p6⟩)
              | (exact ⟨_, rfl, q6⟩)
              | (rename_i b10 w10 n10 k10 s10 q10; exact ⟨_, rfl, FR, fun _ => k10.2.1 _ k10.2.2.1, fun h => absurd h (by decide)⟩)
              | (refine stT_agg (w0 := w9) (vs := [h7, r7]) hz rfl (by kernel_rfl) rfl (by simp [o7, p7]) fun w10 hb10 hc => ⟨b12, hc, q12, ⟨b12, (by first | exact e12 | rfl), q12, fun h => absurd h (by decide), fun _ => trivial⟩, ?_⟩
                 intro iI s v hne hR
                 match iI, hR with
                 | 0, h | 1, h | 2, h | 5, h | 10, h | 11, h | 15, h | 16, h | 17, h => exact h
                 | 3, h => exact (let ⟨b, e, k⟩ := h; ⟨b, e, k.fr hz hc (by first | exact .inl (by decide) | exact .inr (by intro e; have := congrArg List.length e; revert this; decide))⟩)
                 | 4, h => exact (let ⟨b, e, k⟩ := h; ⟨b, e, k.fr hz hc (by first | exact .inl (by decide) | exact .inr (by intro e; have := congrArg List.length e; revert this; decide))⟩)
                 | 6, h => exact h
                 | 7, h => exact h
                 | 8, h => exact h
                 | 9, h => exact h
                 | 12, _ => exact absurd rfl hne
                 | 13, ⟨b, e, h1, h2, h3⟩ => exact ⟨b, e, h1, fun hs => Blk.fr (h2 hs) hz hc (by first | exact .inl (by decide) | exact .inr (by simp [natV, intV])), fun hs => (fun h => trivial) (h3 hs)⟩
                 | 14, ⟨b, e, h1, h2, h3⟩ => exact ⟨b, e, h1, fun hs => Blk.fr (h2 hs) hz hc (by first | exact .inl (by decide) | exact .inr (by simp [natV, intV])), fun hs => (fun h => trivial) (h3 hs)⟩)
              | (refine stT_agg (w0 := w9) (vs := [a8]) hz rfl (by kernel_rfl) rfl (by simp [q8]) fun w10 hb10 hc => ⟨b13, hc, q13, ⟨b13, (by first | exact e13 | rfl), q13, fun h => absurd h (by decide), fun _ => trivial⟩, ?_⟩
                 intro iI s v hne hR
                 match iI, hR with
                 | 0, h | 1, h | 2, h | 5, h | 10, h | 11, h | 15, h | 16, h | 17, h => exact h
                 | 3, h => exact (let ⟨b, e, k⟩ := h; ⟨b, e, k.fr hz hc (by first | exact .inl (by decide) | exact .inr (by intro e; have := congrArg List.length e; revert this; decide))⟩)
                 | 4, h => exact (let ⟨b, e, k⟩ := h; ⟨b, e, k.fr hz hc (by first | exact .inl (by decide) | exact .inr (by intro e; have := congrArg List.length e; revert this; decide))⟩)
                 | 6, h => exact h
                 | 7, h => exact h
                 | 8, h => exact h
                 | 9, h => exact h
                 | 12, ⟨b, e, h1, h2, h3⟩ => exact ⟨b, e, h1, fun hs => Blk.fr (h2 hs) hz hc (by first | exact .inl (by decide) | exact .inr (by simp [natV, intV])), fun hs => (fun h => trivial) (h3 hs)⟩
                 | 13, _ => exact absurd rfl hne
                 | 14, ⟨b, e, h1, h2, h3⟩ => exact ⟨b, e, h1, fun hs => Blk.fr (h2 hs) hz hc (by first | exact .inl (by decide) | exact .inr (by simp [natV, intV])), fun hs => (fun h => trivial) (h3 hs)⟩)
              | (refine stT_agg (w0 := w9) (vs := [intV 0, .int .u8 0]) hz rfl (by kernel_rfl) rfl (by simp [intV, one_int]) fun w10 hb10 hc => ⟨b14, hc, q14, ⟨b14, (by first | exact e14 | rfl), q14, fun h => absurd h (by decide), fun _ => trivial⟩, ?_⟩
                 intro iI s v hne hR
                 match iI, hR with
                 | 0, h | 1, h | 2, h | 5, h | 10, h | 11, h | 15, h | 16, h | 17, h => exact h
                 | 3, h => exact (let ⟨b, e, k⟩ := h; ⟨b, e, k.fr hz hc (by first | exact .inl (by decide) | exact .inr (by intro e; have := congrArg List.length e; revert this; decide))⟩)
                 | 4, h => exact (let ⟨b, e, k⟩ := h; ⟨b, e, k.fr hz hc (by first | exact .inl (by decide) | exact .inr (by intro e; have := congrArg List.length e; revert this; decide))⟩)
                 | 6, h => exact h
                 | 7, h => exact h
                 | 8, h => exact h
                 | 9, h => exact h
                 | 12, ⟨b, e, h1, h2, h3⟩ => exact ⟨b, e, h1, fun hs => Blk.fr (h2 hs) hz hc (by first | exact .inl (by decide) | exact .inr (by simp [natV, intV])), fun hs => (fun h => trivial) (h3 hs)⟩
                 | 13, ⟨b, e, h1, h2, h3⟩ => exact ⟨b, e, h1, fun hs => Blk.fr (h2 hs) hz hc (by first | exact .inl (by decide) | exact .inr (by simp [natV, intV])), fun hs => (fun h => trivial) (h3 hs)⟩
                 | 14, _ => exact absurd rfl hne)
          · intro g9 w9 hx9 hR hag
            have s9 := hx9.st
            have n9 : Now w9 := trivial
            have r9 := Ext.refl w9
            have z9 := hx9.size
            have d11 : (g9 123) = intV 9 := hR 11 _ _ (by decide) rfl rfl
            have a1 := hag.at 1 (by kernel_rfl)
            have a2 := hag.at 2 (by kernel_rfl)
            have a3 := hag.at 3 (by kernel_rfl)
            have a5 := hag.at 5 (by kernel_rfl)
            have a6 := hag.at 6 (by kernel_rfl)
            have a7 := hag.at 7 (by kernel_rfl)
            have a8 := hag.at 8 (by kernel_rfl)
            have a9 := hag.at 9 (by kernel_rfl)
            have a11 := hag.at 11 (by kernel_rfl)
            have a13 := hag.at 13 (by kernel_rfl)
            have a15 := hag.at 15 (by kernel_rfl)
            have a16 := hag.at 16 (by kernel_rfl)
            have a20 := hag.at 20 (by kernel_rfl)
            have a24 := hag.at 24 (by kernel_rfl)
            have a28 := hag.at 28 (by kernel_rfl)
            simp only [S5, ↓reduceIte, Nat.reduceEqDiff, initF, *] at a1 a2 a3 a5 a6 a7 a8 a9 a11 a13 a15 a16 a20 a24 a28
            clear hag hR
            simp only [List.drop_succ_cons, List.drop_zero]
            (repeat' first
    | ((with_reducible refine at_row ?_); refine row1_k (by rfl) (by decide) fun _ _ _ _ _ _ _ => ?_)
    | with_reducible first | refine alloc_k fun _ _ _ _ _ _ => ?_ | refine row_k fun _ _ _ _ _ _ => ?_ | refine fork (fun _ => ?_) fun _ => ?_ | refine forkp (fun _ => ?_) fun _ => ?_ | refine forke (fun _ => ?_) fun _ _ => ?_ | refine tail_k fun _ _ _ => ?_ | refine ext_k fun _ _ _ => ?_ | refine need_a ?_ | refine st_agg (by kernel_rfl) rfl (by simp only [natV, intV, S3, *]) fun _ _ _ _ => ?_ | refine wpd_q_a ?_
    | simp (maxDischargeDepth := 3) only [↓X, ↓Y, ↓Q, S1, ↓reduceIte, Nat.reduceEqDiff, Nat.reduceAdd, Int.reduceLT, Int.reduceLE, Int.reduceNeg, Int.reduceBEq, Int.reduceBNe, Int.reduceEq, Nat.reduceLeDiff, Nat.reduceMul, Nat.reduceLT, natV, intV, putAt, idxOk, flatP, *, siteC]
    | simp (singlePass := true) (maxDischargeDepth := 99) only [*, S2, Nat.reduceLT, siteC])
            refine call_k (hfl.out 3 _ FR FR) ?_
            rintro _ wi ni si ⟨_, rfl, hI, rI, rfl, ohI, orI⟩
            rw [kn26_fail3]
            have aI := ohI.one
            have bI := orI.one
            clear ohI orI
            have hla : lenN aA = 1 := ((AA.1 wd FR).slN (f := replyC)).len
            have e1 : ((1 : Nat) : Int) = 1 := rfl
            have e3 : ((3 : Nat) : Int) = 3 := rfl
            have ht0 : Int.toNat 0 = 0 := rfl
            have hF0 := hF0.out
            have pF0 := pF0.out
            have rF0 := rF0.out
            obtain ⟨gF1, sF1, lF1, kF1⟩ := hF1.out
            obtain ⟨gR1, sR1, lR1, kR1⟩ := rF1.out
            (repeat' first
    | ((with_reducible refine at_row ?_); refine row1_k (by rfl) (by decide) fun _ _ _ _ _ _ _ => ?_)
    | with_reducible first | refine alloc_k fun _ _ _ _ _ _ => ?_ | refine row_k fun _ _ _ _ _ _ => ?_ | refine fork (fun _ => ?_) fun _ => ?_ | refine forkp (fun _ => ?_) fun _ => ?_ | refine forke (fun _ => ?_) fun _ _ => ?_ | refine tail_k fun _ _ _ => ?_ | refine ext_k fun _ _ _ => ?_ | refine need_a ?_ | refine st_agg (by kernel_rfl) rfl (by simp only [natV, intV, S3, *]) fun _ _ _ _ => ?_ | refine wpd_q_a ?_
    | simp (maxDischargeDepth := 3) only [↓X, ↓Y, ↓Q, S1, ↓reduceIte, Nat.reduceEqDiff, Nat.reduceAdd, Int.reduceLT, Int.reduceLE, Int.reduceNeg, Int.reduceBEq, Int.reduceBNe, Int.reduceEq, Nat.reduceLeDiff, Nat.reduceMul, Nat.reduceLT, natV, intV, putAt, idxOk, flatP, *, siteC]
    | simp (singlePass := true) (maxDischargeDepth := 99) only [*, S2, Nat.reduceLT, siteC])
            refine ret_k (ref13Same (Nat.le_refl _) (Nat.le_refl _) ⟨(HF.1 _ FR).slN (f := stateC), (RF.1 _ FR).slN (f := replC)⟩ ⟨(HH1.1 _ FR).slN (f := stateC), (RH1.1 _ FR).slN (f := replC)⟩) fun wx nx sx => ?_
            rw [decide_eq_true rfl]
            (repeat' first
    | ((with_reducible refine at_row ?_); refine row1_k (by rfl) (by decide) fun _ _ _ _ _ _ _ => ?_)
    | with_reducible first | refine alloc_k fun _ _ _ _ _ _ => ?_ | refine row_k fun _ _ _ _ _ _ => ?_ | refine fork (fun _ => ?_) fun _ => ?_ | refine forkp (fun _ => ?_) fun _ => ?_ | refine forke (fun _ => ?_) fun _ _ => ?_ | refine tail_k fun _ _ _ => ?_ | refine ext_k fun _ _ _ => ?_ | refine need_a ?_ | refine st_agg (by kernel_rfl) rfl (by simp only [natV, intV, S3, *]) fun _ _ _ _ => ?_ | refine wpd_q_a ?_
    | ((with_reducible refine at_f 9 ?_); refine ret_k (law26lives) fun _ _ _ => ?_)
    | simp (maxDischargeDepth := 3) only [↓X, ↓Y, ↓Q, S1, ↓reduceIte, Nat.reduceEqDiff, Nat.reduceAdd, Int.reduceLT, Int.reduceLE, Int.reduceNeg, Int.reduceBEq, Int.reduceBNe, Int.reduceEq, Nat.reduceLeDiff, Nat.reduceMul, Nat.reduceLT, natV, intV, putAt, idxOk, flatP, *, siteC]
    | simp (singlePass := true) (maxDischargeDepth := 99) only [*, S2, Nat.reduceLT, siteC])
end Go.Proofs.YtblegjdogmcgbaaGreat
