
/- The document's answer, layer 30: Diff. -/
import Derived.Test.YtmcdgepfhpakiaaDrift4
import Derived.Test.YtmcdgepfhpakiaaRef30
namespace Go.Proofs.Ytmcdgepfhpakiaa
set_option linter.unusedSimpArgs false
set_option linter.unusedVariables false
open Go Go.RowKit
set_option maxRecDepth 100000
set_option linter.unusedSectionVars false
set_option maxHeartbeats 2000000
theorem appD {w : World} {B b cp : Nat} {s : Value} {l : List DriftD} (x : DriftD) {k : Value → World → Prop} (hown : OwnD w B s l) (hb : Blk w b 42 (driftC x)) (hbound : l.length < 1000000000000) (hB : B ≤ w.heap.size)
    (h : ∀ v' w', Now w' → Sa B w w' → (∀ c, c < w.heap.size → ¬ s.ownBlock = some c → Kp c w w') → OwnD w' B v' (l ++ [x]) → k v' w') : appX Try.prog 28 28 28 s (.slice (some ⟨b, 0, none⟩) 1 cp) w k := by
  refine append_both (e := 42) (sz := 5) (by_ := 40) (z := .agg #[.int .u8 0, .int .i64 0, .int .i64 0, .int .i64 0, .int .i64 0]) (c := driftC) x KR KR rfl (by decide) (by decide) hown hb rfl (driftC_one x) hbound hB ?_ ?_
  · intro v' w' _ hx ho
    exact h v' w' trivial (sa_of (hx.mono hB)) (fun c hc _ => ⟨hc, hx.block c hc⟩) (ho.more hB)
  · intro g cp' w' e _ hc ho
    subst e
    exact h _ w' trivial (sa_of (hc.below (hown.lt g rfl).1 hB)) (fun c hlt hn => ⟨hlt, hc.block c hlt fun e => hn (by rw [e]; rfl)⟩) ho
theorem hostD_eq (i : Nat) (x y : StateD) : hostD i x y = (if x.phase = y.phase then [] else [(⟨3, i, 0, x.phase, y.phase⟩ : DriftD)]) ++ (if x.firmware = y.firmware then [] else [(⟨4, i, 0, x.firmware, y.firmware⟩ : DriftD)]) := by
  unfold hostD
  by_cases h1 : x.phase = y.phase <;> by_cases h2 : x.firmware = y.firmware <;> simp [List.filter_cons, realB, h1, h2]
section
variable {w : World} {B : Nat} {hva rva hvb rvb : Value} {x y : WorldD}
theorem ref30Diff (hB : B ≤ w.heap.size) (ha0 : WorldR w B hva rva x) (hb0 : WorldR w B hvb rvb y) (hn1 : x.hosts.length ≤ 1000000) (hn2 : x.replicas.length ≤ 1000000) (hn3 : y.replicas.length ≤ 1000000) (hpa : ∀ s ∈ x.hosts, 0 ≤ s.phase ∧ s.phase ≤ 255) (hpb : ∀ s ∈ y.hosts, 0 ≤ s.phase ∧ s.phase ≤ 255) : CallsV Try.prog 10 #[.agg #[hva, rva], .agg #[hvb, rvb]] w fun r w' => Ext w w' ∧ ∃ v, r = .tuple #[v, intV (diffE x y)] ∧ OwnD w' w.heap.size v (if diffOk x y = true then diffL x y else []) := by
  have hn : Now w := trivial
  have hx : Ext w w := Ext.refl w
  have ha' := ha0.sk hB
  have hb' := hb0.sk hB
  have hA := ha'.2.2.2.2
  have hBB := hb'.2.2.2.2
  (refine callsV_of Try.func10 rfl KR KR ?_; rw [Try.results10])
  (repeat' first
    | ((with_reducible refine at_row ?_); refine row1_a fun _ _ _ _ _ _ _ => ?_)
    | with_reducible first | (first | apply alloc_k | apply row_k); intro _ _ _ _ _ _ | (first | apply fork | apply forkp) <;> intro _ | refine forke (fun _ => ?_) fun _ _ => ?_ | refine tail_k fun _ _ _ => ?_ | refine ext_k fun _ _ _ => ?_ | refine need_a ?_ | refine st_agg KR rfl ON fun _ _ _ _ => ?_ | refine wpd_q_a ?_
    | ((with_reducible refine at_f 21 ?_); refine ret_k (ref13Ascending (B := B) (l := x.replicas) FR (hA _ FR).r) fun _ _ _ => ?_)
    | ((with_reducible refine at_f 21 ?_); refine ret_k (ref13Ascending (B := B) (l := y.replicas) FR (hBB _ FR).r) fun _ _ _ => ?_)
    | simp (maxDischargeDepth := 3) only [↓X, ↓Y, ↓Q, S1, ↓reduceIte, Nat.reduceEqDiff, Nat.reduceAdd, Int.reduceLT, Int.reduceLE, Int.reduceNeg, Int.reduceBEq, Int.reduceBNe, Int.reduceEq, Nat.reduceLeDiff, Nat.reduceMul, Nat.reduceLT, *]
    | simp (singlePass := true) (maxDischargeDepth := 99) only [*, S2, Nat.reduceLT])
  rotate_left
  · exact no_diff (by simp [diffOk, *])
  · exact no_diff (by simp [diffOk, *])
  · exact no_diff (by simp [diffOk, *])
  rename_i b2 w2 n2 k2 s2 q2 b3 w3 n3 k3 s3 q3 heq wa na sa hsa wL nL sL hsb
  have K2 : Blk wL b2 25 [hva, rva] := k2.2.1 wL FR
  have K3 : Blk wL b3 25 [hvb, rvb] := k3.2.1 wL FR
  have hBL : Bl B w wL := FR
  have hxL : Ext w wL := FR
  have h2L : b2 < wL.heap.size := K2.lt
  have h3L : b3 < wL.heap.size := K3.lt
  have hBw : B ≤ wL.heap.size := Nat.le_trans hB hxL.size
  replace heq : Hid _ := heq
  clear k2 k3 sL sa s2 s3 q2 q3 na nL n2 n3
  refine loop_g x.hosts.length (fun g0 k g w' => g 7 = .int .i64 (k : Int) ∧ (g 2 = g0 2 ∧ g 3 = g0 3) ∧ Ext wL w' ∧ ∃ u, g 6 = u ∧ OwnD w' wL.heap.size u (hostsD 0 (x.hosts.take k) (y.hosts.take k))) KR ?_ ?_ ?_
  · (repeat' first
    | ((with_reducible refine at_row ?_); refine row1_a fun _ _ _ _ _ _ _ => ?_)
    | with_reducible first | (first | apply alloc_k | apply row_k); intro _ _ _ _ _ _ | (first | apply fork | apply forkp) <;> intro _ | refine forke (fun _ => ?_) fun _ _ => ?_ | refine tail_k fun _ _ _ => ?_ | refine ext_k fun _ _ _ => ?_ | refine need_a ?_ | refine st_agg KR rfl ON fun _ _ _ _ => ?_ | refine wpd_q_a ?_
    | simp (maxDischargeDepth := 3) only [↓X, ↓Y, ↓Q, S1, ↓reduceIte, Nat.reduceEqDiff, Nat.reduceAdd, Int.reduceLT, Int.reduceLE, Int.reduceNeg, Int.reduceBEq, Int.reduceBNe, Int.reduceEq, Nat.reduceLeDiff, Nat.reduceMul, Nat.reduceLT, *]
    | simp (singlePass := true) (maxDischargeDepth := 99) only [*, S2, Nat.reduceLT])
    exact ⟨Ext.refl _, _, rfl, Own.nil _ _ _ _⟩
  · rintro k m g wk hk hlt nk ⟨hi, hf, hxk, vr, hv6, hown⟩
    simp (maxDischargeDepth := 3) only [U, ↓reduceIte, Nat.reduceEqDiff, *] at hf
    have hBk : Bl B w wk := hBL.ext hxk
    have k2 := (K2.ext hxk).bk
    have k3 := (K3.ext hxk).bk
    have rk : Ext wk wk := Ext.refl wk
    have hw : IntKind.i64.wrap ((k : Int) + 1) = ((k + 1 : Nat) : Int) := by rw [wrap_i64_id] <;> omega
    have hlt' : (k : Int) < (x.hosts.length : Int) := by omega
    have hkb : k < y.hosts.length := by have := heq.out; omega
    have hwa : IntKind.i64.wrap x.hosts[k].phase = x.hosts[k].phase := by have := hpa _ (List.getElem_mem hlt); rw [wrap_i64_id] <;> omega
    have hwb : IntKind.i64.wrap y.hosts[k].phase = y.hosts[k].phase := by have := hpb _ (List.getElem_mem hkb); rw [wrap_i64_id] <;> omega
    have ht := hostsD_take k 0 _ _ hlt hkb
    rw [Nat.zero_add, hostD_eq] at ht
    have hbd : (hostsD 0 (x.hosts.take k) (y.hosts.take k)).length + 1 < 1000000000000 := by have := lenH k 0 x.hosts y.hosts; omega
    replace hbd : Hid _ := hbd
    have hLk : wL.heap.size ≤ wk.heap.size := hxk.size
    (repeat' first
    | ((with_reducible refine wpd_at 7 ?_); refine wpd_hold ?_)
    | ((with_reducible refine at_row ?_); refine row1_a fun _ _ _ _ _ _ _ => ?_)
    | with_reducible first | (first | apply alloc_k | apply row_k); intro _ _ _ _ _ _ | (first | apply fork | apply forkp) <;> intro _ | refine forke (fun _ => ?_) fun _ _ => ?_ | refine tail_k fun _ _ _ => ?_ | refine ext_k fun _ _ _ => ?_ | refine need_a ?_ | refine st_agg KR rfl ON fun _ _ _ _ => ?_ | refine wpd_q_a ?_
    | simp (maxDischargeDepth := 3) only [↓X, ↓Y, ↓Q, S1, ↓reduceIte, Nat.reduceEqDiff, Nat.reduceAdd, Int.reduceLT, Int.reduceLE, Int.reduceNeg, Int.reduceBEq, Int.reduceBNe, Int.reduceEq, Nat.reduceLeDiff, Nat.reduceMul, Nat.reduceLT, *]
    | simp (singlePass := true) (maxDischargeDepth := 99) only [*, S2, Nat.reduceLT])
    unfold wpdH
    refine wpd_relS2 13 [(12, 10)] (fun iI s v w9 => match iI with
      | 0 => v = .pointer (some ⟨b2, 0, none⟩)
      | 1 => v = hva
      | 2 => v = .int .i64 k
      | 3 => v = elemAt hva 2 k
      | 4 => v = stateV x.hosts[k]
      | 5 => v = .pointer (some ⟨b3, 0, none⟩)
      | 6 => v = hvb
      | 7 => v = .int .i64 k
      | 8 => v = elemAt hvb 2 k
      | 9 => v = stateV y.hosts[k]
      | 10 => ∃ b, v = .pointer (some ⟨b, 0, none⟩) ∧ (wk.heap.size ≤ b ∧ b < w9.heap.size) ∧ (s = false → Blk w9 b 46 [.int .u8 0, .int .i64 0]) ∧ (s = true → Blk w9 b 46 [.int .u8 x.hosts[k].phase, intV x.hosts[k].firmware])
      | 11 => ∃ b, v = .pointer (some ⟨b, 0, none⟩) ∧ (wk.heap.size ≤ b ∧ b < w9.heap.size) ∧ (s = false → Blk w9 b 46 [.int .u8 0, .int .i64 0]) ∧ (s = true → True)
      | 12 => True
      | _ => False) (fun iI => iI == 10 || iI == 11) ?_ KR KR KR KR ?_ ?_ ?_
    · intro iI s v w9 hF hR b hb
      match iI, hF, hR with
      | 0, hF, _ => exact absurd hF (by decide)
      | 1, hF, _ => exact absurd hF (by decide)
      | 2, hF, _ => exact absurd hF (by decide)
      | 3, hF, _ => exact absurd hF (by decide)
      | 4, hF, _ => exact absurd hF (by decide)
      | 5, hF, _ => exact absurd hF (by decide)
      | 6, hF, _ => exact absurd hF (by decide)
      | 7, hF, _ => exact absurd hF (by decide)
      | 8, hF, _ => exact absurd hF (by decide)
      | 9, hF, _ => exact absurd hF (by decide)
      | 10, _, ⟨b2, e, h1, _⟩ => subst e; obtain rfl := Option.some.inj hb; exact h1.2
      | 11, _, ⟨b2, e, h1, _⟩ => subst e; obtain rfl := Option.some.inj hb; exact h1.2
      | 12, hF, _ => exact absurd hF (by decide)
    · intro iI s v w1 w2 hR hx9
      match iI, hR with
      | 0, h => exact h
      | 1, h => exact h
      | 2, h => exact h
      | 3, h => exact h
      | 4, h => exact h
      | 5, h => exact h
      | 6, h => exact h
      | 7, h => exact h
      | 8, h => exact h
      | 9, h => exact h
      | 10, ⟨b, e, h1, h2, h3⟩ => exact ⟨b, e, ⟨h1.1, Nat.lt_of_lt_of_le h1.2 hx9.size⟩, fun hs => (h2 hs).ext hx9, fun hs => (fun h => (h.ext hx9)) (h3 hs)⟩
      | 11, ⟨b, e, h1, h2, h3⟩ => exact ⟨b, e, ⟨h1.1, Nat.lt_of_lt_of_le h1.2 hx9.size⟩, fun hs => (h2 hs).ext hx9, fun hs => (fun h => trivial) (h3 hs)⟩
      | 12, h => exact h
    · intro iI oO hi ho gF w9 S9 hx9 hdep hag
      have s9 := hx9.st
      have n9 : Now w9 := trivial
      have r9 := Ext.refl w9
      have z9 := hx9.size
      rcases iI with _|_|_|_|_|_|_|_|_|_|_|_|_|iI
      have e := Option.some.inj ho
      subst e
      have a2 := hag.at 2 KR
      simp only [S5, ↓reduceIte, Nat.reduceEqDiff, initF, *] at a2
      clear hag hdep ho
      refine ⟨fun _ _ => ?_, fun _ hF => absurd hF (by decide), fun a9 pa da hal => by simp [alL] at hal⟩
      refine relStep_off rfl ?_
      rotate_left
      have e := Option.some.inj ho
      subst e
      have d0 : (gF 38) = .pointer (some ⟨b2, 0, none⟩) := hdep ⟨0, .data⟩ (by simp) rfl _ _ rfl rfl
      clear hag hdep ho
      refine ⟨fun _ _ => ?_, fun _ hF => absurd hF (by decide), fun a9 pa da hal => by simp [alL] at hal⟩
      refine relStep_off rfl ?_
      rotate_left
      have e := Option.some.inj ho
      subst e
      have a7 := hag.at 7 KR
      simp only [S5, ↓reduceIte, Nat.reduceEqDiff, initF, *] at a7
      clear hag hdep ho
      refine ⟨fun _ _ => ?_, fun _ hF => absurd hF (by decide), fun a9 pa da hal => by simp [alL] at hal⟩
      refine relStep_off rfl ?_
      rotate_left
      have e := Option.some.inj ho
      subst e
      have d1 : (gF 39) = hva := hdep ⟨1, .data⟩ (by simp) rfl _ _ rfl rfl
      have d2 : (gF 40) = .int .i64 k := hdep ⟨2, .data⟩ (by simp) rfl _ _ rfl rfl
      clear hag hdep ho
      refine ⟨fun _ _ => ?_, fun _ hF => absurd hF (by decide), fun a9 pa da hal => by simp [alL] at hal⟩
      refine relStep_off rfl ?_
      rotate_left
      have e := Option.some.inj ho
      subst e
      have d3 : (gF 41) = elemAt hva 2 k := hdep ⟨3, .data⟩ (by simp) rfl _ _ rfl rfl
      clear hag hdep ho
      refine ⟨fun _ _ => ?_, fun _ hF => absurd hF (by decide), fun a9 pa da hal => by simp [alL] at hal⟩
      refine relStep_off rfl ?_
      rotate_left
      have e := Option.some.inj ho
      subst e
      have a3 := hag.at 3 KR
      simp only [S5, ↓reduceIte, Nat.reduceEqDiff, initF, *] at a3
      clear hag hdep ho
      refine ⟨fun _ _ => ?_, fun _ hF => absurd hF (by decide), fun a9 pa da hal => by simp [alL] at hal⟩
      refine relStep_off rfl ?_
      rotate_left
      have e := Option.some.inj ho
      subst e
      have d5 : (gF 43) = .pointer (some ⟨b3, 0, none⟩) := hdep ⟨5, .data⟩ (by simp) rfl _ _ rfl rfl
      clear hag hdep ho
      refine ⟨fun _ _ => ?_, fun _ hF => absurd hF (by decide), fun a9 pa da hal => by simp [alL] at hal⟩
      refine relStep_off rfl ?_
      rotate_left
      have e := Option.some.inj ho
      subst e
      have a7 := hag.at 7 KR
      simp only [S5, ↓reduceIte, Nat.reduceEqDiff, initF, *] at a7
      clear hag hdep ho
      refine ⟨fun _ _ => ?_, fun _ hF => absurd hF (by decide), fun a9 pa da hal => by simp [alL] at hal⟩
      refine relStep_off rfl ?_
      rotate_left
      have e := Option.some.inj ho
      subst e
      have d6 : (gF 44) = hvb := hdep ⟨6, .data⟩ (by simp) rfl _ _ rfl rfl
      have d7 : (gF 45) = .int .i64 k := hdep ⟨7, .data⟩ (by simp) rfl _ _ rfl rfl
      clear hag hdep ho
      refine ⟨fun _ _ => ?_, fun _ hF => absurd hF (by decide), fun a9 pa da hal => by simp [alL] at hal⟩
      refine relStep_off rfl ?_
      rotate_left
      have e := Option.some.inj ho
      subst e
      have d8 : (gF 46) = elemAt hvb 2 k := hdep ⟨8, .data⟩ (by simp) rfl _ _ rfl rfl
      clear hag hdep ho
      refine ⟨fun _ _ => ?_, fun _ hF => absurd hF (by decide), fun a9 pa da hal => by simp [alL] at hal⟩
      refine relStep_off rfl ?_
      rotate_left
      have e := Option.some.inj ho
      subst e
      clear hag hdep ho
      refine ⟨fun _ hF => absurd hF (by decide), fun _ _ => ?_, fun a9 pa da hal => by simp [alL] at hal⟩
      refine relStep_off rfl ?_
      rotate_left
      have e := Option.some.inj ho
      subst e
      clear hag hdep ho
      refine ⟨fun _ hF => absurd hF (by decide), fun _ _ => ?_, fun a9 pa da hal => by simp [alL] at hal⟩
      refine relStep_off rfl ?_
      rotate_left
      have e := Option.some.inj ho
      subst e
      have d10 : ∃ b, (gF 8) = .pointer (some ⟨b, 0, none⟩) ∧ (wk.heap.size ≤ b ∧ b < w9.heap.size) ∧ ((S9 10) = false → Blk w9 b 46 [.int .u8 0, .int .i64 0]) ∧ ((S9 10) = true → Blk w9 b 46 [.int .u8 x.hosts[k].phase, intV x.hosts[k].firmware]) := hdep ⟨10, .data⟩ (by simp) rfl _ _ rfl rfl
      obtain ⟨b10, e10, ⟨q10, l10⟩, hz10, _⟩ := d10
      have d4 : (gF 42) = stateV x.hosts[k] := hdep ⟨4, .data⟩ (by simp) rfl _ _ rfl rfl
      clear hag hdep ho
      refine ⟨fun h => by simp [alL] at h, fun h => by simp [alL] at h, fun a9 pa da hal hS9 hpa hda => ?_⟩
      obtain rfl : 10 = a9 := by simpa [alL] using hal
      obtain rfl := Option.some.inj hpa
      obtain rfl := Option.some.inj hda
      have hz := hz10 hS9
      clear hal hpa hda hz10
      refine relStep_off rfl ?_
      rotate_left
      · omega
      all_goals (repeat' first
    | ((with_reducible refine at_row ?_); refine row1_a fun _ _ _ _ _ _ _ => ?_)
    | with_reducible first | (first | apply alloc_k | apply row_k); intro _ _ _ _ _ _ | (first | apply fork | apply forkp) <;> intro _ | refine forke (fun _ => ?_) fun _ _ => ?_ | refine tail_k fun _ _ _ => ?_ | refine ext_k fun _ _ _ => ?_ | refine need_a ?_ | refine st_agg KR rfl ON fun _ _ _ _ => ?_ | refine wpd_q_a ?_
    | simp (maxDischargeDepth := 3) only [↓X, ↓Y, ↓Q, S1, ↓reduceIte, Nat.reduceEqDiff, Nat.reduceAdd, Int.reduceLT, Int.reduceLE, Int.reduceNeg, Int.reduceBEq, Int.reduceBNe, Int.reduceEq, Nat.reduceLeDiff, Nat.reduceMul, Nat.reduceLT, *, stateV]
    | simp (singlePass := true) (maxDischargeDepth := 99) only [*, S2, Nat.reduceLT, stateV])
      all_goals first
        | (rename_i b10 w10 n10 k10 s10 q10; exact ⟨⟨_, rfl, ⟨FR, FR⟩, fun _ => k10.2.1 _ k10.2.2.1, fun h => absurd h (by decide)⟩, fun b hb => by obtain rfl := Option.some.inj hb; exact FR⟩)
        | (
            refine stT_agg (w0 := w9) (vs := [.int .u8 x.hosts[k].phase, intV x.hosts[k].firmware]) hz rfl KR rfl (by simp [intV, Value.oneCell']) fun w10 hb10 hc => ⟨b10, hc, q10, ⟨b10, (by first | exact e10 | rfl), ⟨q10, Nat.lt_of_lt_of_le l10 hc.size⟩, fun h => absurd h (by decide), fun _ => hb10⟩, ?_⟩
            intro iI s v hne hN hR
            match iI, hN, hR with
            | 0, _, h | 1, _, h | 2, _, h | 3, _, h | 4, _, h | 5, _, h | 6, _, h | 7, _, h | 8, _, h | 9, _, h | 12, _, h => exact h
            | 10, _, _ => exact absurd rfl hne
            | 11, hN, ⟨b, e, h1, h2, h3⟩ => have hb : b ≠ b10 := (fun h9 => hN (by decide) (by decide) b (by rw [e]; rfl) (by first | (rw [e10, h9]; rfl) | (rw [h9]; rfl))); exact ⟨b, e, ⟨h1.1, Nat.lt_of_lt_of_le h1.2 hc.size⟩, fun hs => hc.blk (h2 hs) hb, fun hs => (fun h => trivial) (h3 hs)⟩)
    · intro g9 w9 hx9 hR hDis hag
      have s9 := hx9.st
      have n9 : Now w9 := trivial
      have r9 := Ext.refl w9
      have z9 := hx9.size
      have d9 : (g9 47) = stateV y.hosts[k] := hR 9 _ _ (by decide) rfl rfl
      have d10 : ∃ b, (g9 8) = .pointer (some ⟨b, 0, none⟩) ∧ (wk.heap.size ≤ b ∧ b < w9.heap.size) ∧ (true = false → Blk w9 b 46 [.int .u8 0, .int .i64 0]) ∧ (true = true → Blk w9 b 46 [.int .u8 x.hosts[k].phase, intV x.hosts[k].firmware]) := hR 10 _ _ (by decide) rfl rfl
      obtain ⟨b10, e10, ⟨q10, _⟩, _, f10⟩ := d10
      replace f10 := f10 rfl
      have nw10 := Nw.of q10
      have K10 := f10.bk
      have d11 : ∃ b, (g9 9) = .pointer (some ⟨b, 0, none⟩) ∧ (wk.heap.size ≤ b ∧ b < w9.heap.size) ∧ (false = false → Blk w9 b 46 [.int .u8 0, .int .i64 0]) ∧ (false = true → True) := hR 11 _ _ (by decide) rfl rfl
      obtain ⟨b11, e11, ⟨q11, _⟩, f11, _⟩ := d11
      have k11 := (f11 rfl).bk
      clear f11
      have nw11 := Nw.of q11
      have a2 := hag.at 2 KR
      have a3 := hag.at 3 KR
      have a6 := hag.at 6 KR
      have a7 := hag.at 7 KR
      simp only [S5, ↓reduceIte, Nat.reduceEqDiff, initF, *] at a2 a3 a6 a7
      have dis10_11 : ¬ b10 = b11 := fun h9 => hDis 10 11 _ _ _ _ (by decide) (by decide) (by decide) rfl rfl rfl rfl rfl rfl b10 (by rw [e10]; rfl) (by rw [e11, h9]; rfl)
      have dis11_10 : ¬ b11 = b10 := fun h9 => hDis 11 10 _ _ _ _ (by decide) (by decide) (by decide) rfl rfl rfl rfl rfl rfl b11 (by rw [e11]; rfl) (by rw [e10, h9]; rfl)
      clear hag hR hDis
      simp only [List.drop_succ_cons, List.drop_zero]
      (repeat' first
    | ((with_reducible refine at_row ?_); refine row1_a fun _ _ _ _ _ _ _ => ?_)
    | with_reducible first | (first | apply alloc_k | apply row_k); intro _ _ _ _ _ _ | (first | apply fork | apply forkp) <;> intro _ | refine forke (fun _ => ?_) fun _ _ => ?_ | refine tail_k fun _ _ _ => ?_ | refine ext_k fun _ _ _ => ?_ | refine need_a ?_ | refine st_agg KR rfl ON fun _ _ _ _ => ?_ | refine wpd_q_a ?_
    | simp (maxDischargeDepth := 3) only [↓X, ↓Y, ↓Q, S1, ↓reduceIte, Nat.reduceEqDiff, Nat.reduceAdd, Int.reduceLT, Int.reduceLE, Int.reduceNeg, Int.reduceBEq, Int.reduceBNe, Int.reduceEq, Nat.reduceLeDiff, Nat.reduceMul, Nat.reduceLT, *, stateV]
    | simp (singlePass := true) (maxDischargeDepth := 99) only [*, S2, Nat.reduceLT, stateV])
      · rename_i wZ nZ kZ sZ c1 c2
        rw [if_pos c1, if_pos c2, List.append_nil, List.append_nil] at ht
        have hxZ : Ext wk wZ := FR
        refine next_g hk hlt ?_
        (repeat' first
    | ((with_reducible refine at_row ?_); refine row1_a fun _ _ _ _ _ _ _ => ?_)
    | with_reducible first | (first | apply alloc_k | apply row_k); intro _ _ _ _ _ _ | (first | apply fork | apply forkp) <;> intro _ | refine forke (fun _ => ?_) fun _ _ => ?_ | refine tail_k fun _ _ _ => ?_ | refine ext_k fun _ _ _ => ?_ | refine need_a ?_ | refine st_agg KR rfl ON fun _ _ _ _ => ?_ | refine wpd_q_a ?_
    | simp (maxDischargeDepth := 3) only [↓X, ↓Y, ↓Q, S1, ↓reduceIte, Nat.reduceEqDiff, Nat.reduceAdd, Int.reduceLT, Int.reduceLE, Int.reduceNeg, Int.reduceBEq, Int.reduceBNe, Int.reduceEq, Nat.reduceLeDiff, Nat.reduceMul, Nat.reduceLT, *]
    | simp (singlePass := true) (maxDischargeDepth := 99) only [*, S2, Nat.reduceLT])
        exact ⟨_, rfl, hown.ext hxZ⟩
      · rename_i wZ nZ kZ sZ c1 _ c2 bR wR nR kR sR qR
        rw [if_pos c1, if_neg c2, List.nil_append] at ht
        have hxR : Ext wk wR := FR
        refine appD ⟨4, k, 0, x.hosts[k].firmware, y.hosts[k].firmware⟩ (hown.ext hxR) (kR.2.1 _ FR) (Nat.lt_of_succ_lt hbd.out) FR fun v' w7 n7 s7 _ hown7 => ?_
        have hxL7 : Ext wL w7 := s7.2.2.1 _ (hxk.trans hxR) (Nat.le_refl _)
        (repeat' first
    | ((with_reducible refine at_row ?_); refine row1_a fun _ _ _ _ _ _ _ => ?_)
    | with_reducible first | (first | apply alloc_k | apply row_k); intro _ _ _ _ _ _ | (first | apply fork | apply forkp) <;> intro _ | refine forke (fun _ => ?_) fun _ _ => ?_ | refine tail_k fun _ _ _ => ?_ | refine ext_k fun _ _ _ => ?_ | refine need_a ?_ | refine st_agg KR rfl ON fun _ _ _ _ => ?_ | refine wpd_q_a ?_
    | simp (maxDischargeDepth := 3) only [↓X, ↓Y, ↓Q, S1, ↓reduceIte, Nat.reduceEqDiff, Nat.reduceAdd, Int.reduceLT, Int.reduceLE, Int.reduceNeg, Int.reduceBEq, Int.reduceBNe, Int.reduceEq, Nat.reduceLeDiff, Nat.reduceMul, Nat.reduceLT, *]
    | simp (singlePass := true) (maxDischargeDepth := 99) only [*, S2, Nat.reduceLT])
        refine next_g hk hlt ?_
        (repeat' first
    | ((with_reducible refine at_row ?_); refine row1_a fun _ _ _ _ _ _ _ => ?_)
    | with_reducible first | (first | apply alloc_k | apply row_k); intro _ _ _ _ _ _ | (first | apply fork | apply forkp) <;> intro _ | refine forke (fun _ => ?_) fun _ _ => ?_ | refine tail_k fun _ _ _ => ?_ | refine ext_k fun _ _ _ => ?_ | refine need_a ?_ | refine st_agg KR rfl ON fun _ _ _ _ => ?_ | refine wpd_q_a ?_
    | simp (maxDischargeDepth := 3) only [↓X, ↓Y, ↓Q, S1, ↓reduceIte, Nat.reduceEqDiff, Nat.reduceAdd, Int.reduceLT, Int.reduceLE, Int.reduceNeg, Int.reduceBEq, Int.reduceBNe, Int.reduceEq, Nat.reduceLeDiff, Nat.reduceMul, Nat.reduceLT, *]
    | simp (singlePass := true) (maxDischargeDepth := 99) only [*, S2, Nat.reduceLT])
        exact ⟨_, rfl, hown7⟩
      · rename_i wZ nZ kZ sZ _ c1 bR wR nR kR sR qR
        rw [if_neg c1] at ht
        have hxR : Ext wk wR := FR
        have K11' := kZ.2.1 wR FR
        have K10' := K10.2.1 wR FR
        refine appD ⟨3, k, 0, x.hosts[k].phase, y.hosts[k].phase⟩ (hown.ext hxR) (kR.2.1 _ FR) (Nat.lt_of_succ_lt hbd.out) FR fun v' w7 n7 s7 p7 hown7 => ?_
        have hxL7 : Ext wL w7 := s7.2.2.1 _ (hxk.trans hxR) (Nat.le_refl _)
        have K10 := (K10'.kp (p7 b10 K10'.lt fun e => by have := (hown.lt _ e).2; omega)).bk
        have K11 := (K11'.kp (p7 b11 K11'.lt fun e => by have := (hown.lt _ e).2; omega)).bk
        have r7 := Ext.refl w7
        have hz7 : wL.heap.size ≤ w7.heap.size := hxL7.size
        clear kZ p7 K10' K11' f10 k11
        (repeat' first
    | ((with_reducible refine at_row ?_); refine row1_a fun _ _ _ _ _ _ _ => ?_)
    | with_reducible first | (first | apply alloc_k | apply row_k); intro _ _ _ _ _ _ | (first | apply fork | apply forkp) <;> intro _ | refine forke (fun _ => ?_) fun _ _ => ?_ | refine tail_k fun _ _ _ => ?_ | refine ext_k fun _ _ _ => ?_ | refine need_a ?_ | refine st_agg KR rfl ON fun _ _ _ _ => ?_ | refine wpd_q_a ?_
    | simp (maxDischargeDepth := 3) only [↓X, ↓Y, ↓Q, S1, ↓reduceIte, Nat.reduceEqDiff, Nat.reduceAdd, Int.reduceLT, Int.reduceLE, Int.reduceNeg, Int.reduceBEq, Int.reduceBNe, Int.reduceEq, Nat.reduceLeDiff, Nat.reduceMul, Nat.reduceLT, *]
    | simp (singlePass := true) (maxDischargeDepth := 99) only [*, S2, Nat.reduceLT])
        · rename_i c2
          rw [if_pos c2, List.append_nil] at ht
          refine next_g hk hlt ?_
          (repeat' first
    | ((with_reducible refine at_row ?_); refine row1_a fun _ _ _ _ _ _ _ => ?_)
    | with_reducible first | (first | apply alloc_k | apply row_k); intro _ _ _ _ _ _ | (first | apply fork | apply forkp) <;> intro _ | refine forke (fun _ => ?_) fun _ _ => ?_ | refine tail_k fun _ _ _ => ?_ | refine ext_k fun _ _ _ => ?_ | refine need_a ?_ | refine st_agg KR rfl ON fun _ _ _ _ => ?_ | refine wpd_q_a ?_
    | simp (maxDischargeDepth := 3) only [↓X, ↓Y, ↓Q, S1, ↓reduceIte, Nat.reduceEqDiff, Nat.reduceAdd, Int.reduceLT, Int.reduceLE, Int.reduceNeg, Int.reduceBEq, Int.reduceBNe, Int.reduceEq, Nat.reduceLeDiff, Nat.reduceMul, Nat.reduceLT, *]
    | simp (singlePass := true) (maxDischargeDepth := 99) only [*, S2, Nat.reduceLT])
          exact ⟨_, rfl, hown7⟩
        · rename_i _ c2 bT wT nT kT sT qT
          rw [if_neg c2] at ht
          have hxT : Ext w7 wT := FR
          refine appD ⟨4, k, 0, x.hosts[k].firmware, y.hosts[k].firmware⟩ (hown7.ext hxT) (kT.2.1 _ FR) (by have := hbd.out; simp; omega) FR fun v' w8 n8 s8 _ hown8 => ?_
          have hxL8 : Ext wL w8 := s8.2.2.1 _ (hxL7.trans hxT) (Nat.le_refl _)
          (repeat' first
    | ((with_reducible refine at_row ?_); refine row1_a fun _ _ _ _ _ _ _ => ?_)
    | with_reducible first | (first | apply alloc_k | apply row_k); intro _ _ _ _ _ _ | (first | apply fork | apply forkp) <;> intro _ | refine forke (fun _ => ?_) fun _ _ => ?_ | refine tail_k fun _ _ _ => ?_ | refine ext_k fun _ _ _ => ?_ | refine need_a ?_ | refine st_agg KR rfl ON fun _ _ _ _ => ?_ | refine wpd_q_a ?_
    | simp (maxDischargeDepth := 3) only [↓X, ↓Y, ↓Q, S1, ↓reduceIte, Nat.reduceEqDiff, Nat.reduceAdd, Int.reduceLT, Int.reduceLE, Int.reduceNeg, Int.reduceBEq, Int.reduceBNe, Int.reduceEq, Nat.reduceLeDiff, Nat.reduceMul, Nat.reduceLT, *]
    | simp (singlePass := true) (maxDischargeDepth := 99) only [*, S2, Nat.reduceLT])
          refine next_g hk hlt ?_
          (repeat' first
    | ((with_reducible refine at_row ?_); refine row1_a fun _ _ _ _ _ _ _ => ?_)
    | with_reducible first | (first | apply alloc_k | apply row_k); intro _ _ _ _ _ _ | (first | apply fork | apply forkp) <;> intro _ | refine forke (fun _ => ?_) fun _ _ => ?_ | refine tail_k fun _ _ _ => ?_ | refine ext_k fun _ _ _ => ?_ | refine need_a ?_ | refine st_agg KR rfl ON fun _ _ _ _ => ?_ | refine wpd_q_a ?_
    | simp (maxDischargeDepth := 3) only [↓X, ↓Y, ↓Q, S1, ↓reduceIte, Nat.reduceEqDiff, Nat.reduceAdd, Int.reduceLT, Int.reduceLE, Int.reduceNeg, Int.reduceBEq, Int.reduceBNe, Int.reduceEq, Nat.reduceLeDiff, Nat.reduceMul, Nat.reduceLT, *]
    | simp (singlePass := true) (maxDischargeDepth := 99) only [*, S2, Nat.reduceLT])
          exact ⟨_, rfl, by simpa using hown8⟩
  · rintro g wk nk ⟨hi, hf, hxk, vr, hv6, hown⟩
    simp (maxDischargeDepth := 3) only [U, ↓reduceIte, Nat.reduceEqDiff, *] at hf
    have eb : y.hosts.take x.hosts.length = y.hosts := by rw [heq.out]; exact List.take_length
    rw [List.take_length, eb] at hown
    have k2 := (K2.ext hxk).bk
    have k3 := (K3.ext hxk).bk
    have rk : Ext wk wk := Ext.refl wk
    have hge : ¬ (x.hosts.length : Int) < (x.hosts.length : Int) := by omega
    have hlen1 : Hid ((hostsD 0 x.hosts y.hosts).length ≤ 2000000) := by
      have := lenH x.hosts.length 0 x.hosts y.hosts
      rw [List.take_length, heq.out, List.take_length] at this
      have h9 := heq.out
      show _ ≤ _
      omega
    clear eb
    (repeat' first
    | ((with_reducible refine at_row ?_); refine row1_a fun _ _ _ _ _ _ _ => ?_)
    | with_reducible first | (first | apply alloc_k | apply row_k); intro _ _ _ _ _ _ | (first | apply fork | apply forkp) <;> intro _ | refine forke (fun _ => ?_) fun _ _ => ?_ | refine tail_k fun _ _ _ => ?_ | refine ext_k fun _ _ _ => ?_ | refine need_a ?_ | refine st_agg KR rfl ON fun _ _ _ _ => ?_ | refine wpd_q_a ?_
    | simp (maxDischargeDepth := 3) only [↓X, ↓Y, ↓Q, S1, ↓reduceIte, Nat.reduceEqDiff, Nat.reduceAdd, Int.reduceLT, Int.reduceLE, Int.reduceNeg, Int.reduceBEq, Int.reduceBNe, Int.reduceEq, Nat.reduceLeDiff, Nat.reduceMul, Nat.reduceLT, *]
    | simp (singlePass := true) (maxDischargeDepth := 99) only [*, S2, Nat.reduceLT])
    refine loop_g x.replicas.length (fun g0 k g w' => g 10 = .int .i64 (k : Int) ∧ (g 2 = g0 2 ∧ g 3 = g0 3) ∧ Ext wL w' ∧ ∃ u, g 6 = u ∧ OwnD w' wL.heap.size u (hostsD 0 x.hosts y.hosts ++ (onlyL (x.replicas.take k) y.replicas).map (mkD 1))) KR ?_ ?_ ?_
    · (repeat' first
    | ((with_reducible refine at_row ?_); refine row1_a fun _ _ _ _ _ _ _ => ?_)
    | with_reducible first | (first | apply alloc_k | apply row_k); intro _ _ _ _ _ _ | (first | apply fork | apply forkp) <;> intro _ | refine forke (fun _ => ?_) fun _ _ => ?_ | refine tail_k fun _ _ _ => ?_ | refine ext_k fun _ _ _ => ?_ | refine need_a ?_ | refine st_agg KR rfl ON fun _ _ _ _ => ?_ | refine wpd_q_a ?_
    | simp (maxDischargeDepth := 3) only [↓X, ↓Y, ↓Q, S1, ↓reduceIte, Nat.reduceEqDiff, Nat.reduceAdd, Int.reduceLT, Int.reduceLE, Int.reduceNeg, Int.reduceBEq, Int.reduceBNe, Int.reduceEq, Nat.reduceLeDiff, Nat.reduceMul, Nat.reduceLT, *]
    | simp (singlePass := true) (maxDischargeDepth := 99) only [*, S2, Nat.reduceLT])
      exact ⟨_, rfl, by simpa [onlyL] using hown⟩
    · clear hi hxk hown k2 k3 rk nk
      rintro k m g wk hk hlt nk ⟨hi, hf, hxk, vr, hv6, hown⟩
      simp (maxDischargeDepth := 3) only [U, ↓reduceIte, Nat.reduceEqDiff, *] at hf
      have hBk : Bl B w wk := hBL.ext hxk
      have k2 := (K2.ext hxk).bk
      have k3 := (K3.ext hxk).bk
      have rk : Ext wk wk := Ext.refl wk
      have hw : IntKind.i64.wrap ((k : Int) + 1) = ((k + 1 : Nat) : Int) := by rw [wrap_i64_id] <;> omega
      have hlt' : (k : Int) < (x.replicas.length : Int) := by omega
      have ht := takeO (there := y.replicas) hlt
      have hLk : wL.heap.size ≤ wk.heap.size := hxk.size
      have hBw' : B ≤ wk.heap.size := Nat.le_trans hBw hLk
      have hbd : Hid ((hostsD 0 x.hosts y.hosts ++ (onlyL (x.replicas.take k) y.replicas).map (mkD 1)).length < 1000000000000) := by
        show _ < _
        have h1 := lenO (l := hostsD 0 x.hosts y.hosts) (here := x.replicas) (there := y.replicas) (k := k) (kd := 1) (by have := hlen1.out; omega)
        omega
      replace ht : Hid _ := ht
      (repeat' first
    | ((with_reducible refine wpd_at 16 ?_); refine wpd_hold ?_)
    | ((with_reducible refine wpd_at 15 ?_); refine wpd_tail 6 KR KR KR ?_)
    | ((with_reducible refine at_row ?_); refine row1_a fun _ _ _ _ _ _ _ => ?_)
    | with_reducible first | (first | apply alloc_k | apply row_k); intro _ _ _ _ _ _ | (first | apply fork | apply forkp) <;> intro _ | refine forke (fun _ => ?_) fun _ _ => ?_ | refine tail_k fun _ _ _ => ?_ | refine ext_k fun _ _ _ => ?_ | refine need_a ?_ | refine st_agg KR rfl ON fun _ _ _ _ => ?_ | refine wpd_q_a ?_
    | ((with_reducible refine at_f 22 ?_); refine ret_k (ref13Has (r := x.replicas[k]) FR (hBB _ FR)) fun _ _ _ => ?_)
    | simp (maxDischargeDepth := 3) only [↓X, ↓Y, ↓Q, S1, ↓reduceIte, Nat.reduceEqDiff, Nat.reduceAdd, Int.reduceLT, Int.reduceLE, Int.reduceNeg, Int.reduceBEq, Int.reduceBNe, Int.reduceEq, Nat.reduceLeDiff, Nat.reduceMul, Nat.reduceLT, *, replicaV]
    | simp (singlePass := true) (maxDischargeDepth := 99) only [*, S2, Nat.reduceLT, replicaV])
      · rename_i wX nX sX wY nY sY hno
        have hxE : Ext wk wY := FR
        refine next_g hk hlt ?_
        (repeat' first
    | ((with_reducible refine at_row ?_); refine row1_a fun _ _ _ _ _ _ _ => ?_)
    | with_reducible first | (first | apply alloc_k | apply row_k); intro _ _ _ _ _ _ | (first | apply fork | apply forkp) <;> intro _ | refine forke (fun _ => ?_) fun _ _ => ?_ | refine tail_k fun _ _ _ => ?_ | refine ext_k fun _ _ _ => ?_ | refine need_a ?_ | refine st_agg KR rfl ON fun _ _ _ _ => ?_ | refine wpd_q_a ?_
    | simp (maxDischargeDepth := 3) only [↓X, ↓Y, ↓Q, S1, ↓reduceIte, Nat.reduceEqDiff, Nat.reduceAdd, Int.reduceLT, Int.reduceLE, Int.reduceNeg, Int.reduceBEq, Int.reduceBNe, Int.reduceEq, Nat.reduceLeDiff, Nat.reduceMul, Nat.reduceLT, *]
    | simp (singlePass := true) (maxDischargeDepth := 99) only [*, S2, Nat.reduceLT])
        have e2 := ht.out
        rw [if_pos hno, List.append_nil] at e2
        refine ⟨_, rfl, ?_⟩
        rw [e2]
        exact hown.ext hxE
      · rename_i wX nX sX wY nY sY hno
        have rY := Ext.refl wY
        have hxE : Ext wk wY := FR
        have hLY : wL.heap.size ≤ wY.heap.size := Nat.le_trans hLk hxE.size
        unfold wpdH
        refine wpd_rel 15 (fun iI v w9 => match iI with
          | 0 => v = vr
          | 1 => v = .pointer (some ⟨b2, 1, none⟩)
          | 2 => v = rva
          | 3 => v = .int .i64 k
          | 4 => v = elemAt rva 2 k
          | 5 => v = addF (elemAt rva 2 k) 1
          | 6 => v = intV x.replicas[k].host
          | 7 => v = .pointer (some ⟨b2, 1, none⟩)
          | 8 => v = rva
          | 9 => v = .int .i64 k
          | 10 => v = elemAt rva 2 k
          | 11 => v = addF (elemAt rva 2 k) 0
          | 12 => v = intV x.replicas[k].service
          | 13 => v = .agg (driftC (mkD 1 x.replicas[k])).toArray
          | 14 => ∃ b, v = .slice (some ⟨b, 0, none⟩) 1 1 ∧ Blk w9 b 42 (driftC (mkD 1 x.replicas[k])) ∧ wY.heap.size ≤ b
          | _ => False) KR KR KR ?_ ?_ ?_
        · intro iI v w1 w2 hR hx9
          match iI, hR with
          | 0, h => exact h
          | 1, h => exact h
          | 2, h => exact h
          | 3, h => exact h
          | 4, h => exact h
          | 5, h => exact h
          | 6, h => exact h
          | 7, h => exact h
          | 8, h => exact h
          | 9, h => exact h
          | 10, h => exact h
          | 11, h => exact h
          | 12, h => exact h
          | 13, h => exact h
          | 14, ⟨b, e, h1, h2⟩ => exact ⟨b, e, h1.ext hx9, h2⟩
        · intro iI oO hi ho gF w9 hx9 hdep hag
          have s9 := hx9.st
          have n9 : Now w9 := trivial
          have r9 := Ext.refl w9
          have z9 := hx9.size
          rcases iI with _|_|_|_|_|_|_|_|_|_|_|_|_|_|_|iI
          · have e := Option.some.inj ho
            subst e
            have a6 := hag.at 6 KR
            simp only [S5, ↓reduceIte, Nat.reduceEqDiff, initF, *] at a6
            clear hag hdep ho
            refine relStep_off rfl ?_
            (repeat' first
    | ((with_reducible refine at_row ?_); refine row1_a fun _ _ _ _ _ _ _ => ?_)
    | with_reducible first | (first | apply alloc_k | apply row_k); intro _ _ _ _ _ _ | (first | apply fork | apply forkp) <;> intro _ | refine forke (fun _ => ?_) fun _ _ => ?_ | refine tail_k fun _ _ _ => ?_ | refine ext_k fun _ _ _ => ?_ | refine need_a ?_ | refine st_agg KR rfl ON fun _ _ _ _ => ?_ | refine wpd_q_a ?_
    | simp (maxDischargeDepth := 3) only [↓X, ↓Y, ↓Q, S1, ↓reduceIte, Nat.reduceEqDiff, Nat.reduceAdd, Int.reduceLT, Int.reduceLE, Int.reduceNeg, Int.reduceBEq, Int.reduceBNe, Int.reduceEq, Nat.reduceLeDiff, Nat.reduceMul, Nat.reduceLT, *, driftC, replicaV, mkD]
    | simp (singlePass := true) (maxDischargeDepth := 99) only [*, S2, Nat.reduceLT, driftC, replicaV, mkD])
          · have e := Option.some.inj ho
            subst e
            have a2 := hag.at 2 KR
            simp only [S5, ↓reduceIte, Nat.reduceEqDiff, initF, *] at a2
            clear hag hdep ho
            refine relStep_off rfl ?_
            (repeat' first
    | ((with_reducible refine at_row ?_); refine row1_a fun _ _ _ _ _ _ _ => ?_)
    | with_reducible first | (first | apply alloc_k | apply row_k); intro _ _ _ _ _ _ | (first | apply fork | apply forkp) <;> intro _ | refine forke (fun _ => ?_) fun _ _ => ?_ | refine tail_k fun _ _ _ => ?_ | refine ext_k fun _ _ _ => ?_ | refine need_a ?_ | refine st_agg KR rfl ON fun _ _ _ _ => ?_ | refine wpd_q_a ?_
    | simp (maxDischargeDepth := 3) only [↓X, ↓Y, ↓Q, S1, ↓reduceIte, Nat.reduceEqDiff, Nat.reduceAdd, Int.reduceLT, Int.reduceLE, Int.reduceNeg, Int.reduceBEq, Int.reduceBNe, Int.reduceEq, Nat.reduceLeDiff, Nat.reduceMul, Nat.reduceLT, *, driftC, replicaV, mkD]
    | simp (singlePass := true) (maxDischargeDepth := 99) only [*, S2, Nat.reduceLT, driftC, replicaV, mkD])
          · have e := Option.some.inj ho
            subst e
            have d1 : (gF 94) = .pointer (some ⟨b2, 1, none⟩) := hdep ⟨1, .data⟩ (by simp) rfl _ _ rfl rfl
            clear hag hdep ho
            refine relStep_off rfl ?_
            (repeat' first
    | ((with_reducible refine at_row ?_); refine row1_a fun _ _ _ _ _ _ _ => ?_)
    | with_reducible first | (first | apply alloc_k | apply row_k); intro _ _ _ _ _ _ | (first | apply fork | apply forkp) <;> intro _ | refine forke (fun _ => ?_) fun _ _ => ?_ | refine tail_k fun _ _ _ => ?_ | refine ext_k fun _ _ _ => ?_ | refine need_a ?_ | refine st_agg KR rfl ON fun _ _ _ _ => ?_ | refine wpd_q_a ?_
    | simp (maxDischargeDepth := 3) only [↓X, ↓Y, ↓Q, S1, ↓reduceIte, Nat.reduceEqDiff, Nat.reduceAdd, Int.reduceLT, Int.reduceLE, Int.reduceNeg, Int.reduceBEq, Int.reduceBNe, Int.reduceEq, Nat.reduceLeDiff, Nat.reduceMul, Nat.reduceLT, *, driftC, replicaV, mkD]
    | simp (singlePass := true) (maxDischargeDepth := 99) only [*, S2, Nat.reduceLT, driftC, replicaV, mkD])
          · have e := Option.some.inj ho
            subst e
            have a10 := hag.at 10 KR
            simp only [S5, ↓reduceIte, Nat.reduceEqDiff, initF, *] at a10
            clear hag hdep ho
            refine relStep_off rfl ?_
            (repeat' first
    | ((with_reducible refine at_row ?_); refine row1_a fun _ _ _ _ _ _ _ => ?_)
    | with_reducible first | (first | apply alloc_k | apply row_k); intro _ _ _ _ _ _ | (first | apply fork | apply forkp) <;> intro _ | refine forke (fun _ => ?_) fun _ _ => ?_ | refine tail_k fun _ _ _ => ?_ | refine ext_k fun _ _ _ => ?_ | refine need_a ?_ | refine st_agg KR rfl ON fun _ _ _ _ => ?_ | refine wpd_q_a ?_
    | simp (maxDischargeDepth := 3) only [↓X, ↓Y, ↓Q, S1, ↓reduceIte, Nat.reduceEqDiff, Nat.reduceAdd, Int.reduceLT, Int.reduceLE, Int.reduceNeg, Int.reduceBEq, Int.reduceBNe, Int.reduceEq, Nat.reduceLeDiff, Nat.reduceMul, Nat.reduceLT, *, driftC, replicaV, mkD]
    | simp (singlePass := true) (maxDischargeDepth := 99) only [*, S2, Nat.reduceLT, driftC, replicaV, mkD])
          · have e := Option.some.inj ho
            subst e
            have d2 : (gF 95) = rva := hdep ⟨2, .data⟩ (by simp) rfl _ _ rfl rfl
            have d3 : (gF 96) = .int .i64 k := hdep ⟨3, .data⟩ (by simp) rfl _ _ rfl rfl
            clear hag hdep ho
            refine relStep_off rfl ?_
            (repeat' first
    | ((with_reducible refine at_row ?_); refine row1_a fun _ _ _ _ _ _ _ => ?_)
    | with_reducible first | (first | apply alloc_k | apply row_k); intro _ _ _ _ _ _ | (first | apply fork | apply forkp) <;> intro _ | refine forke (fun _ => ?_) fun _ _ => ?_ | refine tail_k fun _ _ _ => ?_ | refine ext_k fun _ _ _ => ?_ | refine need_a ?_ | refine st_agg KR rfl ON fun _ _ _ _ => ?_ | refine wpd_q_a ?_
    | simp (maxDischargeDepth := 3) only [↓X, ↓Y, ↓Q, S1, ↓reduceIte, Nat.reduceEqDiff, Nat.reduceAdd, Int.reduceLT, Int.reduceLE, Int.reduceNeg, Int.reduceBEq, Int.reduceBNe, Int.reduceEq, Nat.reduceLeDiff, Nat.reduceMul, Nat.reduceLT, *, driftC, replicaV, mkD]
    | simp (singlePass := true) (maxDischargeDepth := 99) only [*, S2, Nat.reduceLT, driftC, replicaV, mkD])
          · have e := Option.some.inj ho
            subst e
            have d4 : (gF 97) = elemAt rva 2 k := hdep ⟨4, .data⟩ (by simp) rfl _ _ rfl rfl
            clear hag hdep ho
            refine relStep_off rfl ?_
            (repeat' first
    | ((with_reducible refine at_row ?_); refine row1_a fun _ _ _ _ _ _ _ => ?_)
    | with_reducible first | (first | apply alloc_k | apply row_k); intro _ _ _ _ _ _ | (first | apply fork | apply forkp) <;> intro _ | refine forke (fun _ => ?_) fun _ _ => ?_ | refine tail_k fun _ _ _ => ?_ | refine ext_k fun _ _ _ => ?_ | refine need_a ?_ | refine st_agg KR rfl ON fun _ _ _ _ => ?_ | refine wpd_q_a ?_
    | simp (maxDischargeDepth := 3) only [↓X, ↓Y, ↓Q, S1, ↓reduceIte, Nat.reduceEqDiff, Nat.reduceAdd, Int.reduceLT, Int.reduceLE, Int.reduceNeg, Int.reduceBEq, Int.reduceBNe, Int.reduceEq, Nat.reduceLeDiff, Nat.reduceMul, Nat.reduceLT, *, driftC, replicaV, mkD]
    | simp (singlePass := true) (maxDischargeDepth := 99) only [*, S2, Nat.reduceLT, driftC, replicaV, mkD])
          · have e := Option.some.inj ho
            subst e
            have d5 : (gF 98) = addF (elemAt rva 2 k) 1 := hdep ⟨5, .data⟩ (by simp) rfl _ _ rfl rfl
            clear hag hdep ho
            refine relStep_off rfl ?_
            (repeat' first
    | ((with_reducible refine at_row ?_); refine row1_a fun _ _ _ _ _ _ _ => ?_)
    | with_reducible first | (first | apply alloc_k | apply row_k); intro _ _ _ _ _ _ | (first | apply fork | apply forkp) <;> intro _ | refine forke (fun _ => ?_) fun _ _ => ?_ | refine tail_k fun _ _ _ => ?_ | refine ext_k fun _ _ _ => ?_ | refine need_a ?_ | refine st_agg KR rfl ON fun _ _ _ _ => ?_ | refine wpd_q_a ?_
    | simp (maxDischargeDepth := 3) only [↓X, ↓Y, ↓Q, S1, ↓reduceIte, Nat.reduceEqDiff, Nat.reduceAdd, Int.reduceLT, Int.reduceLE, Int.reduceNeg, Int.reduceBEq, Int.reduceBNe, Int.reduceEq, Nat.reduceLeDiff, Nat.reduceMul, Nat.reduceLT, *, driftC, replicaV, mkD]
    | simp (singlePass := true) (maxDischargeDepth := 99) only [*, S2, Nat.reduceLT, driftC, replicaV, mkD])
          · have e := Option.some.inj ho
            subst e
            have a2 := hag.at 2 KR
            simp only [S5, ↓reduceIte, Nat.reduceEqDiff, initF, *] at a2
            clear hag hdep ho
            refine relStep_off rfl ?_
            (repeat' first
    | ((with_reducible refine at_row ?_); refine row1_a fun _ _ _ _ _ _ _ => ?_)
    | with_reducible first | (first | apply alloc_k | apply row_k); intro _ _ _ _ _ _ | (first | apply fork | apply forkp) <;> intro _ | refine forke (fun _ => ?_) fun _ _ => ?_ | refine tail_k fun _ _ _ => ?_ | refine ext_k fun _ _ _ => ?_ | refine need_a ?_ | refine st_agg KR rfl ON fun _ _ _ _ => ?_ | refine wpd_q_a ?_
    | simp (maxDischargeDepth := 3) only [↓X, ↓Y, ↓Q, S1, ↓reduceIte, Nat.reduceEqDiff, Nat.reduceAdd, Int.reduceLT, Int.reduceLE, Int.reduceNeg, Int.reduceBEq, Int.reduceBNe, Int.reduceEq, Nat.reduceLeDiff, Nat.reduceMul, Nat.reduceLT, *, driftC, replicaV, mkD]
    | simp (singlePass := true) (maxDischargeDepth := 99) only [*, S2, Nat.reduceLT, driftC, replicaV, mkD])
          · have e := Option.some.inj ho
            subst e
            have d7 : (gF 100) = .pointer (some ⟨b2, 1, none⟩) := hdep ⟨7, .data⟩ (by simp) rfl _ _ rfl rfl
            clear hag hdep ho
            refine relStep_off rfl ?_
            (repeat' first
    | ((with_reducible refine at_row ?_); refine row1_a fun _ _ _ _ _ _ _ => ?_)
    | with_reducible first | (first | apply alloc_k | apply row_k); intro _ _ _ _ _ _ | (first | apply fork | apply forkp) <;> intro _ | refine forke (fun _ => ?_) fun _ _ => ?_ | refine tail_k fun _ _ _ => ?_ | refine ext_k fun _ _ _ => ?_ | refine need_a ?_ | refine st_agg KR rfl ON fun _ _ _ _ => ?_ | refine wpd_q_a ?_
    | simp (maxDischargeDepth := 3) only [↓X, ↓Y, ↓Q, S1, ↓reduceIte, Nat.reduceEqDiff, Nat.reduceAdd, Int.reduceLT, Int.reduceLE, Int.reduceNeg, Int.reduceBEq, Int.reduceBNe, Int.reduceEq, Nat.reduceLeDiff, Nat.reduceMul, Nat.reduceLT, *, driftC, replicaV, mkD]
    | simp (singlePass := true) (maxDischargeDepth := 99) only [*, S2, Nat.reduceLT, driftC, replicaV, mkD])
          · have e := Option.some.inj ho
            subst e
            have a10 := hag.at 10 KR
            simp only [S5, ↓reduceIte, Nat.reduceEqDiff, initF, *] at a10
            clear hag hdep ho
            refine relStep_off rfl ?_
            (repeat' first
    | ((with_reducible refine at_row ?_); refine row1_a fun _ _ _ _ _ _ _ => ?_)
    | with_reducible first | (first | apply alloc_k | apply row_k); intro _ _ _ _ _ _ | (first | apply fork | apply forkp) <;> intro _ | refine forke (fun _ => ?_) fun _ _ => ?_ | refine tail_k fun _ _ _ => ?_ | refine ext_k fun _ _ _ => ?_ | refine need_a ?_ | refine st_agg KR rfl ON fun _ _ _ _ => ?_ | refine wpd_q_a ?_
    | simp (maxDischargeDepth := 3) only [↓X, ↓Y, ↓Q, S1, ↓reduceIte, Nat.reduceEqDiff, Nat.reduceAdd, Int.reduceLT, Int.reduceLE, Int.reduceNeg, Int.reduceBEq, Int.reduceBNe, Int.reduceEq, Nat.reduceLeDiff, Nat.reduceMul, Nat.reduceLT, *, driftC, replicaV, mkD]
    | simp (singlePass := true) (maxDischargeDepth := 99) only [*, S2, Nat.reduceLT, driftC, replicaV, mkD])
          · have e := Option.some.inj ho
            subst e
            have d8 : (gF 101) = rva := hdep ⟨8, .data⟩ (by simp) rfl _ _ rfl rfl
            have d9 : (gF 102) = .int .i64 k := hdep ⟨9, .data⟩ (by simp) rfl _ _ rfl rfl
            clear hag hdep ho
            refine relStep_off rfl ?_
            (repeat' first
    | ((with_reducible refine at_row ?_); refine row1_a fun _ _ _ _ _ _ _ => ?_)
    | with_reducible first | (first | apply alloc_k | apply row_k); intro _ _ _ _ _ _ | (first | apply fork | apply forkp) <;> intro _ | refine forke (fun _ => ?_) fun _ _ => ?_ | refine tail_k fun _ _ _ => ?_ | refine ext_k fun _ _ _ => ?_ | refine need_a ?_ | refine st_agg KR rfl ON fun _ _ _ _ => ?_ | refine wpd_q_a ?_
    | simp (maxDischargeDepth := 3) only [↓X, ↓Y, ↓Q, S1, ↓reduceIte, Nat.reduceEqDiff, Nat.reduceAdd, Int.reduceLT, Int.reduceLE, Int.reduceNeg, Int.reduceBEq, Int.reduceBNe, Int.reduceEq, Nat.reduceLeDiff, Nat.reduceMul, Nat.reduceLT, *, driftC, replicaV, mkD]
    | simp (singlePass := true) (maxDischargeDepth := 99) only [*, S2, Nat.reduceLT, driftC, replicaV, mkD])
          · have e := Option.some.inj ho
            subst e
            have d10 : (gF 103) = elemAt rva 2 k := hdep ⟨10, .data⟩ (by simp) rfl _ _ rfl rfl
            clear hag hdep ho
            refine relStep_off rfl ?_
            (repeat' first
    | ((with_reducible refine at_row ?_); refine row1_a fun _ _ _ _ _ _ _ => ?_)
    | with_reducible first | (first | apply alloc_k | apply row_k); intro _ _ _ _ _ _ | (first | apply fork | apply forkp) <;> intro _ | refine forke (fun _ => ?_) fun _ _ => ?_ | refine tail_k fun _ _ _ => ?_ | refine ext_k fun _ _ _ => ?_ | refine need_a ?_ | refine st_agg KR rfl ON fun _ _ _ _ => ?_ | refine wpd_q_a ?_
    | simp (maxDischargeDepth := 3) only [↓X, ↓Y, ↓Q, S1, ↓reduceIte, Nat.reduceEqDiff, Nat.reduceAdd, Int.reduceLT, Int.reduceLE, Int.reduceNeg, Int.reduceBEq, Int.reduceBNe, Int.reduceEq, Nat.reduceLeDiff, Nat.reduceMul, Nat.reduceLT, *, driftC, replicaV, mkD]
    | simp (singlePass := true) (maxDischargeDepth := 99) only [*, S2, Nat.reduceLT, driftC, replicaV, mkD])
          · have e := Option.some.inj ho
            subst e
            have d11 : (gF 104) = addF (elemAt rva 2 k) 0 := hdep ⟨11, .data⟩ (by simp) rfl _ _ rfl rfl
            clear hag hdep ho
            refine relStep_off rfl ?_
            (repeat' first
    | ((with_reducible refine at_row ?_); refine row1_a fun _ _ _ _ _ _ _ => ?_)
    | with_reducible first | (first | apply alloc_k | apply row_k); intro _ _ _ _ _ _ | (first | apply fork | apply forkp) <;> intro _ | refine forke (fun _ => ?_) fun _ _ => ?_ | refine tail_k fun _ _ _ => ?_ | refine ext_k fun _ _ _ => ?_ | refine need_a ?_ | refine st_agg KR rfl ON fun _ _ _ _ => ?_ | refine wpd_q_a ?_
    | simp (maxDischargeDepth := 3) only [↓X, ↓Y, ↓Q, S1, ↓reduceIte, Nat.reduceEqDiff, Nat.reduceAdd, Int.reduceLT, Int.reduceLE, Int.reduceNeg, Int.reduceBEq, Int.reduceBNe, Int.reduceEq, Nat.reduceLeDiff, Nat.reduceMul, Nat.reduceLT, *, driftC, replicaV, mkD]
    | simp (singlePass := true) (maxDischargeDepth := 99) only [*, S2, Nat.reduceLT, driftC, replicaV, mkD])
          · have e := Option.some.inj ho
            subst e
            have d6 : (gF 99) = intV x.replicas[k].host := hdep ⟨6, .data⟩ (by simp) rfl _ _ rfl rfl
            have d12 : (gF 105) = intV x.replicas[k].service := hdep ⟨12, .data⟩ (by simp) rfl _ _ rfl rfl
            clear hag hdep ho
            refine relStep_off rfl ?_
            (repeat' first
    | ((with_reducible refine at_row ?_); refine row1_a fun _ _ _ _ _ _ _ => ?_)
    | with_reducible first | (first | apply alloc_k | apply row_k); intro _ _ _ _ _ _ | (first | apply fork | apply forkp) <;> intro _ | refine forke (fun _ => ?_) fun _ _ => ?_ | refine tail_k fun _ _ _ => ?_ | refine ext_k fun _ _ _ => ?_ | refine need_a ?_ | refine st_agg KR rfl ON fun _ _ _ _ => ?_ | refine wpd_q_a ?_
    | simp (maxDischargeDepth := 3) only [↓X, ↓Y, ↓Q, S1, ↓reduceIte, Nat.reduceEqDiff, Nat.reduceAdd, Int.reduceLT, Int.reduceLE, Int.reduceNeg, Int.reduceBEq, Int.reduceBNe, Int.reduceEq, Nat.reduceLeDiff, Nat.reduceMul, Nat.reduceLT, *, driftC, replicaV, mkD]
    | simp (singlePass := true) (maxDischargeDepth := 99) only [*, S2, Nat.reduceLT, driftC, replicaV, mkD])
          · have e := Option.some.inj ho
            subst e
            have d13 : (gF 106) = .agg (driftC (mkD 1 x.replicas[k])).toArray := hdep ⟨13, .data⟩ (by simp) rfl _ _ rfl rfl
            clear hag hdep ho
            refine relStep_off rfl ?_
            (repeat' first
    | ((with_reducible refine at_row ?_); refine row1_a fun _ _ _ _ _ _ _ => ?_)
    | with_reducible first | (first | apply alloc_k | apply row_k); intro _ _ _ _ _ _ | (first | apply fork | apply forkp) <;> intro _ | refine forke (fun _ => ?_) fun _ _ => ?_ | refine tail_k fun _ _ _ => ?_ | refine ext_k fun _ _ _ => ?_ | refine need_a ?_ | refine st_agg KR rfl ON fun _ _ _ _ => ?_ | refine wpd_q_a ?_
    | simp (maxDischargeDepth := 3) only [↓X, ↓Y, ↓Q, S1, ↓reduceIte, Nat.reduceEqDiff, Nat.reduceAdd, Int.reduceLT, Int.reduceLE, Int.reduceNeg, Int.reduceBEq, Int.reduceBNe, Int.reduceEq, Nat.reduceLeDiff, Nat.reduceMul, Nat.reduceLT, *, driftC, replicaV, mkD]
    | simp (singlePass := true) (maxDischargeDepth := 99) only [*, S2, Nat.reduceLT, driftC, replicaV, mkD])
            first
              | (rename_i b10 w10 n10 k10 s10 q10; exact ⟨_, rfl, k10.2.1 _ k10.2.2.1, FR⟩)
              | (rename_i b10 w10 n10 k10 s10 q10 l10; exact ⟨_, rfl, k10.2.1 _ k10.2.2.1, FR⟩)
          · omega
        · intro g9 w9 hx9 hR hag
          have s9 := hx9.st
          have n9 : Now w9 := trivial
          have r9 := Ext.refl w9
          have z9 := hx9.size
          have d0 : (g9 93) = vr := hR 0 _ _ (by decide) rfl rfl
          have d14 : ∃ b, (g9 107) = .slice (some ⟨b, 0, none⟩) 1 1 ∧ Blk w9 b 42 (driftC (mkD 1 x.replicas[k])) ∧ wY.heap.size ≤ b := hR 14 _ _ (by decide) rfl rfl
          obtain ⟨b14, e14, hb14, q14⟩ := d14
          have k14 := hb14.bk
          have nw14 := Nw.of q14
          have a2 := hag.at 2 KR
          have a3 := hag.at 3 KR
          have a10 := hag.at 10 KR
          simp only [S5, ↓reduceIte, Nat.reduceEqDiff, initF, *] at a2 a3 a10
          clear hag hR
          simp only [List.drop_succ_cons, List.drop_zero]
          have hx9L : Ext wL w9 := (hxk.trans hxE).trans hx9
          (repeat' first
    | ((with_reducible refine at_row ?_); refine row1_a fun _ _ _ _ _ _ _ => ?_)
    | with_reducible first | (first | apply alloc_k | apply row_k); intro _ _ _ _ _ _ | (first | apply fork | apply forkp) <;> intro _ | refine forke (fun _ => ?_) fun _ _ => ?_ | refine tail_k fun _ _ _ => ?_ | refine ext_k fun _ _ _ => ?_ | refine need_a ?_ | refine st_agg KR rfl ON fun _ _ _ _ => ?_ | refine wpd_q_a ?_
    | simp (maxDischargeDepth := 3) only [↓X, ↓Y, ↓Q, S1, ↓reduceIte, Nat.reduceEqDiff, Nat.reduceAdd, Int.reduceLT, Int.reduceLE, Int.reduceNeg, Int.reduceBEq, Int.reduceBNe, Int.reduceEq, Nat.reduceLeDiff, Nat.reduceMul, Nat.reduceLT, *]
    | simp (singlePass := true) (maxDischargeDepth := 99) only [*, S2, Nat.reduceLT])
          refine appD (mkD 1 x.replicas[k]) (hown.ext (hxE.trans hx9)) (k14.2.1 _ FR) hbd.out hx9L.size fun v' w7 n7 s7 _ hown7 => ?_
          have hxL7 : Ext wL w7 := s7.2.2.1 _ hx9L (Nat.le_refl _)
          (repeat' first
    | ((with_reducible refine at_row ?_); refine row1_a fun _ _ _ _ _ _ _ => ?_)
    | with_reducible first | (first | apply alloc_k | apply row_k); intro _ _ _ _ _ _ | (first | apply fork | apply forkp) <;> intro _ | refine forke (fun _ => ?_) fun _ _ => ?_ | refine tail_k fun _ _ _ => ?_ | refine ext_k fun _ _ _ => ?_ | refine need_a ?_ | refine st_agg KR rfl ON fun _ _ _ _ => ?_ | refine wpd_q_a ?_
    | simp (maxDischargeDepth := 3) only [↓X, ↓Y, ↓Q, S1, ↓reduceIte, Nat.reduceEqDiff, Nat.reduceAdd, Int.reduceLT, Int.reduceLE, Int.reduceNeg, Int.reduceBEq, Int.reduceBNe, Int.reduceEq, Nat.reduceLeDiff, Nat.reduceMul, Nat.reduceLT, *]
    | simp (singlePass := true) (maxDischargeDepth := 99) only [*, S2, Nat.reduceLT])
          refine next_g hk hlt ?_
          (repeat' first
    | ((with_reducible refine at_row ?_); refine row1_a fun _ _ _ _ _ _ _ => ?_)
    | with_reducible first | (first | apply alloc_k | apply row_k); intro _ _ _ _ _ _ | (first | apply fork | apply forkp) <;> intro _ | refine forke (fun _ => ?_) fun _ _ => ?_ | refine tail_k fun _ _ _ => ?_ | refine ext_k fun _ _ _ => ?_ | refine need_a ?_ | refine st_agg KR rfl ON fun _ _ _ _ => ?_ | refine wpd_q_a ?_
    | simp (maxDischargeDepth := 3) only [↓X, ↓Y, ↓Q, S1, ↓reduceIte, Nat.reduceEqDiff, Nat.reduceAdd, Int.reduceLT, Int.reduceLE, Int.reduceNeg, Int.reduceBEq, Int.reduceBNe, Int.reduceEq, Nat.reduceLeDiff, Nat.reduceMul, Nat.reduceLT, *]
    | simp (singlePass := true) (maxDischargeDepth := 99) only [*, S2, Nat.reduceLT])
          have e2 := ht.out
          rw [if_neg (by rw [hno]; decide)] at e2
          refine ⟨_, rfl, ?_⟩
          rw [e2, List.map_append, ← List.append_assoc]
          exact hown7
    · clear hi hxk hown k2 k3 rk nk
      rintro g wk nk ⟨hi, hf, hxk, vr, hv6, hown⟩
      simp (maxDischargeDepth := 3) only [U, ↓reduceIte, Nat.reduceEqDiff, *] at hf
      rw [List.take_length] at hown
      have k2 := (K2.ext hxk).bk
      have k3 := (K3.ext hxk).bk
      have rk : Ext wk wk := Ext.refl wk
      have hge : ¬ (x.replicas.length : Int) < (x.replicas.length : Int) := by omega
      have hlen2 : Hid ((hostsD 0 x.hosts y.hosts ++ (onlyL x.replicas y.replicas).map (mkD 1)).length ≤ 3000000) := by
        have h1 := hlen1.out
        have h2 : ((onlyL x.replicas y.replicas).map (mkD 1)).length ≤ 1000000 := by
          rw [List.length_map]
          exact Nat.le_trans (List.length_filter_le _ _) hn2
        show _ ≤ _
        rw [List.length_append]
        omega
      (repeat' first
    | ((with_reducible refine at_row ?_); refine row1_a fun _ _ _ _ _ _ _ => ?_)
    | with_reducible first | (first | apply alloc_k | apply row_k); intro _ _ _ _ _ _ | (first | apply fork | apply forkp) <;> intro _ | refine forke (fun _ => ?_) fun _ _ => ?_ | refine tail_k fun _ _ _ => ?_ | refine ext_k fun _ _ _ => ?_ | refine need_a ?_ | refine st_agg KR rfl ON fun _ _ _ _ => ?_ | refine wpd_q_a ?_
    | simp (maxDischargeDepth := 3) only [↓X, ↓Y, ↓Q, S1, ↓reduceIte, Nat.reduceEqDiff, Nat.reduceAdd, Int.reduceLT, Int.reduceLE, Int.reduceNeg, Int.reduceBEq, Int.reduceBNe, Int.reduceEq, Nat.reduceLeDiff, Nat.reduceMul, Nat.reduceLT, *]
    | simp (singlePass := true) (maxDischargeDepth := 99) only [*, S2, Nat.reduceLT])
      refine loop_g y.replicas.length (fun g0 k g w' => g 11 = .int .i64 (k : Int) ∧ (g 2 = g0 2 ∧ g 3 = g0 3) ∧ Ext wL w' ∧ ∃ u, g 6 = u ∧ OwnD w' wL.heap.size u (hostsD 0 x.hosts y.hosts ++ (onlyL x.replicas y.replicas).map (mkD 1) ++ (onlyL (y.replicas.take k) x.replicas).map (mkD 2))) KR ?_ ?_ ?_
      · (repeat' first
    | ((with_reducible refine at_row ?_); refine row1_a fun _ _ _ _ _ _ _ => ?_)
    | with_reducible first | (first | apply alloc_k | apply row_k); intro _ _ _ _ _ _ | (first | apply fork | apply forkp) <;> intro _ | refine forke (fun _ => ?_) fun _ _ => ?_ | refine tail_k fun _ _ _ => ?_ | refine ext_k fun _ _ _ => ?_ | refine need_a ?_ | refine st_agg KR rfl ON fun _ _ _ _ => ?_ | refine wpd_q_a ?_
    | simp (maxDischargeDepth := 3) only [↓X, ↓Y, ↓Q, S1, ↓reduceIte, Nat.reduceEqDiff, Nat.reduceAdd, Int.reduceLT, Int.reduceLE, Int.reduceNeg, Int.reduceBEq, Int.reduceBNe, Int.reduceEq, Nat.reduceLeDiff, Nat.reduceMul, Nat.reduceLT, *]
    | simp (singlePass := true) (maxDischargeDepth := 99) only [*, S2, Nat.reduceLT])
        exact ⟨_, rfl, by simpa [onlyL] using hown⟩
      · clear hi hxk hown k2 k3 rk nk
        rintro k m g wk hk hlt nk ⟨hi, hf, hxk, vr, hv6, hown⟩
        simp (maxDischargeDepth := 3) only [U, ↓reduceIte, Nat.reduceEqDiff, *] at hf
        have hBk : Bl B w wk := hBL.ext hxk
        have k2 := (K2.ext hxk).bk
        have k3 := (K3.ext hxk).bk
        have rk : Ext wk wk := Ext.refl wk
        have hw : IntKind.i64.wrap ((k : Int) + 1) = ((k + 1 : Nat) : Int) := by rw [wrap_i64_id] <;> omega
        have hlt' : (k : Int) < (y.replicas.length : Int) := by omega
        have ht := takeO (there := x.replicas) hlt
        have hLk : wL.heap.size ≤ wk.heap.size := hxk.size
        have hBw' : B ≤ wk.heap.size := Nat.le_trans hBw hLk
        have hbd : Hid ((hostsD 0 x.hosts y.hosts ++ (onlyL x.replicas y.replicas).map (mkD 1) ++ (onlyL (y.replicas.take k) x.replicas).map (mkD 2)).length < 1000000000000) := by
          show _ < _
          have h1 := lenO (l := hostsD 0 x.hosts y.hosts ++ (onlyL x.replicas y.replicas).map (mkD 1)) (here := y.replicas) (there := x.replicas) (k := k) (kd := 2) (by have := hlen2.out; omega)
          omega
        replace ht : Hid _ := ht
        (repeat' first
    | ((with_reducible refine wpd_at 21 ?_); refine wpd_hold ?_)
    | ((with_reducible refine wpd_at 20 ?_); refine wpd_tail 6 KR KR KR ?_)
    | ((with_reducible refine at_row ?_); refine row1_a fun _ _ _ _ _ _ _ => ?_)
    | with_reducible first | (first | apply alloc_k | apply row_k); intro _ _ _ _ _ _ | (first | apply fork | apply forkp) <;> intro _ | refine forke (fun _ => ?_) fun _ _ => ?_ | refine tail_k fun _ _ _ => ?_ | refine ext_k fun _ _ _ => ?_ | refine need_a ?_ | refine st_agg KR rfl ON fun _ _ _ _ => ?_ | refine wpd_q_a ?_
    | ((with_reducible refine at_f 22 ?_); refine ret_k (ref13Has (r := y.replicas[k]) FR (hA _ FR)) fun _ _ _ => ?_)
    | simp (maxDischargeDepth := 3) only [↓X, ↓Y, ↓Q, S1, ↓reduceIte, Nat.reduceEqDiff, Nat.reduceAdd, Int.reduceLT, Int.reduceLE, Int.reduceNeg, Int.reduceBEq, Int.reduceBNe, Int.reduceEq, Nat.reduceLeDiff, Nat.reduceMul, Nat.reduceLT, *, replicaV]
    | simp (singlePass := true) (maxDischargeDepth := 99) only [*, S2, Nat.reduceLT, replicaV])
        · rename_i wX nX sX wY nY sY hno
          have hxE : Ext wk wY := FR
          refine next_g hk hlt ?_
          (repeat' first
    | ((with_reducible refine at_row ?_); refine row1_a fun _ _ _ _ _ _ _ => ?_)
    | with_reducible first | (first | apply alloc_k | apply row_k); intro _ _ _ _ _ _ | (first | apply fork | apply forkp) <;> intro _ | refine forke (fun _ => ?_) fun _ _ => ?_ | refine tail_k fun _ _ _ => ?_ | refine ext_k fun _ _ _ => ?_ | refine need_a ?_ | refine st_agg KR rfl ON fun _ _ _ _ => ?_ | refine wpd_q_a ?_
    | simp (maxDischargeDepth := 3) only [↓X, ↓Y, ↓Q, S1, ↓reduceIte, Nat.reduceEqDiff, Nat.reduceAdd, Int.reduceLT, Int.reduceLE, Int.reduceNeg, Int.reduceBEq, Int.reduceBNe, Int.reduceEq, Nat.reduceLeDiff, Nat.reduceMul, Nat.reduceLT, *]
    | simp (singlePass := true) (maxDischargeDepth := 99) only [*, S2, Nat.reduceLT])
          have e2 := ht.out
          rw [if_pos hno, List.append_nil] at e2
          refine ⟨_, rfl, ?_⟩
          rw [e2]
          exact hown.ext hxE
        · rename_i wX nX sX wY nY sY hno
          have rY := Ext.refl wY
          have hxE : Ext wk wY := FR
          have hLY : wL.heap.size ≤ wY.heap.size := Nat.le_trans hLk hxE.size
          unfold wpdH
          refine wpd_rel 15 (fun iI v w9 => match iI with
            | 0 => v = vr
            | 1 => v = .pointer (some ⟨b3, 1, none⟩)
            | 2 => v = rvb
            | 3 => v = .int .i64 k
            | 4 => v = elemAt rvb 2 k
            | 5 => v = addF (elemAt rvb 2 k) 1
            | 6 => v = intV y.replicas[k].host
            | 7 => v = .pointer (some ⟨b3, 1, none⟩)
            | 8 => v = rvb
            | 9 => v = .int .i64 k
            | 10 => v = elemAt rvb 2 k
            | 11 => v = addF (elemAt rvb 2 k) 0
            | 12 => v = intV y.replicas[k].service
            | 13 => v = .agg (driftC (mkD 2 y.replicas[k])).toArray
            | 14 => ∃ b, v = .slice (some ⟨b, 0, none⟩) 1 1 ∧ Blk w9 b 42 (driftC (mkD 2 y.replicas[k])) ∧ wY.heap.size ≤ b
            | _ => False) KR KR KR ?_ ?_ ?_
          · intro iI v w1 w2 hR hx9
            match iI, hR with
            | 0, h => exact h
            | 1, h => exact h
            | 2, h => exact h
            | 3, h => exact h
            | 4, h => exact h
            | 5, h => exact h
            | 6, h => exact h
            | 7, h => exact h
            | 8, h => exact h
            | 9, h => exact h
            | 10, h => exact h
            | 11, h => exact h
            | 12, h => exact h
            | 13, h => exact h
            | 14, ⟨b, e, h1, h2⟩ => exact ⟨b, e, h1.ext hx9, h2⟩
          · intro iI oO hi ho gF w9 hx9 hdep hag
            have s9 := hx9.st
            have n9 : Now w9 := trivial
            have r9 := Ext.refl w9
            have z9 := hx9.size
            rcases iI with _|_|_|_|_|_|_|_|_|_|_|_|_|_|_|iI
            · have e := Option.some.inj ho
              subst e
              have a6 := hag.at 6 KR
              simp only [S5, ↓reduceIte, Nat.reduceEqDiff, initF, *] at a6
              clear hag hdep ho
              refine relStep_off rfl ?_
              (repeat' first
    | ((with_reducible refine at_row ?_); refine row1_a fun _ _ _ _ _ _ _ => ?_)
    | with_reducible first | (first | apply alloc_k | apply row_k); intro _ _ _ _ _ _ | (first | apply fork | apply forkp) <;> intro _ | refine forke (fun _ => ?_) fun _ _ => ?_ | refine tail_k fun _ _ _ => ?_ | refine ext_k fun _ _ _ => ?_ | refine need_a ?_ | refine st_agg KR rfl ON fun _ _ _ _ => ?_ | refine wpd_q_a ?_
    | simp (maxDischargeDepth := 3) only [↓X, ↓Y, ↓Q, S1, ↓reduceIte, Nat.reduceEqDiff, Nat.reduceAdd, Int.reduceLT, Int.reduceLE, Int.reduceNeg, Int.reduceBEq, Int.reduceBNe, Int.reduceEq, Nat.reduceLeDiff, Nat.reduceMul, Nat.reduceLT, *, driftC, replicaV, mkD]
    | simp (singlePass := true) (maxDischargeDepth := 99) only [*, S2, Nat.reduceLT, driftC, replicaV, mkD])
            · have e := Option.some.inj ho
              subst e
              have a3 := hag.at 3 KR
              simp only [S5, ↓reduceIte, Nat.reduceEqDiff, initF, *] at a3
              clear hag hdep ho
              refine relStep_off rfl ?_
              (repeat' first
    | ((with_reducible refine at_row ?_); refine row1_a fun _ _ _ _ _ _ _ => ?_)
    | with_reducible first | (first | apply alloc_k | apply row_k); intro _ _ _ _ _ _ | (first | apply fork | apply forkp) <;> intro _ | refine forke (fun _ => ?_) fun _ _ => ?_ | refine tail_k fun _ _ _ => ?_ | refine ext_k fun _ _ _ => ?_ | refine need_a ?_ | refine st_agg KR rfl ON fun _ _ _ _ => ?_ | refine wpd_q_a ?_
    | simp (maxDischargeDepth := 3) only [↓X, ↓Y, ↓Q, S1, ↓reduceIte, Nat.reduceEqDiff, Nat.reduceAdd, Int.reduceLT, Int.reduceLE, Int.reduceNeg, Int.reduceBEq, Int.reduceBNe, Int.reduceEq, Nat.reduceLeDiff, Nat.reduceMul, Nat.reduceLT, *, driftC, replicaV, mkD]
    | simp (singlePass := true) (maxDischargeDepth := 99) only [*, S2, Nat.reduceLT, driftC, replicaV, mkD])
            · have e := Option.some.inj ho
              subst e
              have d1 : (gF 125) = .pointer (some ⟨b3, 1, none⟩) := hdep ⟨1, .data⟩ (by simp) rfl _ _ rfl rfl
              clear hag hdep ho
              refine relStep_off rfl ?_
              (repeat' first
    | ((with_reducible refine at_row ?_); refine row1_a fun _ _ _ _ _ _ _ => ?_)
    | with_reducible first | (first | apply alloc_k | apply row_k); intro _ _ _ _ _ _ | (first | apply fork | apply forkp) <;> intro _ | refine forke (fun _ => ?_) fun _ _ => ?_ | refine tail_k fun _ _ _ => ?_ | refine ext_k fun _ _ _ => ?_ | refine need_a ?_ | refine st_agg KR rfl ON fun _ _ _ _ => ?_ | refine wpd_q_a ?_
    | simp (maxDischargeDepth := 3) only [↓X, ↓Y, ↓Q, S1, ↓reduceIte, Nat.reduceEqDiff, Nat.reduceAdd, Int.reduceLT, Int.reduceLE, Int.reduceNeg, Int.reduceBEq, Int.reduceBNe, Int.reduceEq, Nat.reduceLeDiff, Nat.reduceMul, Nat.reduceLT, *, driftC, replicaV, mkD]
    | simp (singlePass := true) (maxDischargeDepth := 99) only [*, S2, Nat.reduceLT, driftC, replicaV, mkD])
            · have e := Option.some.inj ho
              subst e
              have a11 := hag.at 11 KR
              simp only [S5, ↓reduceIte, Nat.reduceEqDiff, initF, *] at a11
              clear hag hdep ho
              refine relStep_off rfl ?_
              (repeat' first
    | ((with_reducible refine at_row ?_); refine row1_a fun _ _ _ _ _ _ _ => ?_)
    | with_reducible first | (first | apply alloc_k | apply row_k); intro _ _ _ _ _ _ | (first | apply fork | apply forkp) <;> intro _ | refine forke (fun _ => ?_) fun _ _ => ?_ | refine tail_k fun _ _ _ => ?_ | refine ext_k fun _ _ _ => ?_ | refine need_a ?_ | refine st_agg KR rfl ON fun _ _ _ _ => ?_ | refine wpd_q_a ?_
    | simp (maxDischargeDepth := 3) only [↓X, ↓Y, ↓Q, S1, ↓reduceIte, Nat.reduceEqDiff, Nat.reduceAdd, Int.reduceLT, Int.reduceLE, Int.reduceNeg, Int.reduceBEq, Int.reduceBNe, Int.reduceEq, Nat.reduceLeDiff, Nat.reduceMul, Nat.reduceLT, *, driftC, replicaV, mkD]
    | simp (singlePass := true) (maxDischargeDepth := 99) only [*, S2, Nat.reduceLT, driftC, replicaV, mkD])
            · have e := Option.some.inj ho
              subst e
              have d2 : (gF 126) = rvb := hdep ⟨2, .data⟩ (by simp) rfl _ _ rfl rfl
              have d3 : (gF 127) = .int .i64 k := hdep ⟨3, .data⟩ (by simp) rfl _ _ rfl rfl
              clear hag hdep ho
              refine relStep_off rfl ?_
              (repeat' first
    | ((with_reducible refine at_row ?_); refine row1_a fun _ _ _ _ _ _ _ => ?_)
    | with_reducible first | (first | apply alloc_k | apply row_k); intro _ _ _ _ _ _ | (first | apply fork | apply forkp) <;> intro _ | refine forke (fun _ => ?_) fun _ _ => ?_ | refine tail_k fun _ _ _ => ?_ | refine ext_k fun _ _ _ => ?_ | refine need_a ?_ | refine st_agg KR rfl ON fun _ _ _ _ => ?_ | refine wpd_q_a ?_
    | simp (maxDischargeDepth := 3) only [↓X, ↓Y, ↓Q, S1, ↓reduceIte, Nat.reduceEqDiff, Nat.reduceAdd, Int.reduceLT, Int.reduceLE, Int.reduceNeg, Int.reduceBEq, Int.reduceBNe, Int.reduceEq, Nat.reduceLeDiff, Nat.reduceMul, Nat.reduceLT, *, driftC, replicaV, mkD]
    | simp (singlePass := true) (maxDischargeDepth := 99) only [*, S2, Nat.reduceLT, driftC, replicaV, mkD])
            · have e := Option.some.inj ho
              subst e
              have d4 : (gF 128) = elemAt rvb 2 k := hdep ⟨4, .data⟩ (by simp) rfl _ _ rfl rfl
              clear hag hdep ho
              refine relStep_off rfl ?_
              (repeat' first
    | ((with_reducible refine at_row ?_); refine row1_a fun _ _ _ _ _ _ _ => ?_)
    | with_reducible first | (first | apply alloc_k | apply row_k); intro _ _ _ _ _ _ | (first | apply fork | apply forkp) <;> intro _ | refine forke (fun _ => ?_) fun _ _ => ?_ | refine tail_k fun _ _ _ => ?_ | refine ext_k fun _ _ _ => ?_ | refine need_a ?_ | refine st_agg KR rfl ON fun _ _ _ _ => ?_ | refine wpd_q_a ?_
    | simp (maxDischargeDepth := 3) only [↓X, ↓Y, ↓Q, S1, ↓reduceIte, Nat.reduceEqDiff, Nat.reduceAdd, Int.reduceLT, Int.reduceLE, Int.reduceNeg, Int.reduceBEq, Int.reduceBNe, Int.reduceEq, Nat.reduceLeDiff, Nat.reduceMul, Nat.reduceLT, *, driftC, replicaV, mkD]
    | simp (singlePass := true) (maxDischargeDepth := 99) only [*, S2, Nat.reduceLT, driftC, replicaV, mkD])
            · have e := Option.some.inj ho
              subst e
              have d5 : (gF 129) = addF (elemAt rvb 2 k) 1 := hdep ⟨5, .data⟩ (by simp) rfl _ _ rfl rfl
              clear hag hdep ho
              refine relStep_off rfl ?_
              (repeat' first
    | ((with_reducible refine at_row ?_); refine row1_a fun _ _ _ _ _ _ _ => ?_)
    | with_reducible first | (first | apply alloc_k | apply row_k); intro _ _ _ _ _ _ | (first | apply fork | apply forkp) <;> intro _ | refine forke (fun _ => ?_) fun _ _ => ?_ | refine tail_k fun _ _ _ => ?_ | refine ext_k fun _ _ _ => ?_ | refine need_a ?_ | refine st_agg KR rfl ON fun _ _ _ _ => ?_ | refine wpd_q_a ?_
    | simp (maxDischargeDepth := 3) only [↓X, ↓Y, ↓Q, S1, ↓reduceIte, Nat.reduceEqDiff, Nat.reduceAdd, Int.reduceLT, Int.reduceLE, Int.reduceNeg, Int.reduceBEq, Int.reduceBNe, Int.reduceEq, Nat.reduceLeDiff, Nat.reduceMul, Nat.reduceLT, *, driftC, replicaV, mkD]
    | simp (singlePass := true) (maxDischargeDepth := 99) only [*, S2, Nat.reduceLT, driftC, replicaV, mkD])
            · have e := Option.some.inj ho
              subst e
              have a3 := hag.at 3 KR
              simp only [S5, ↓reduceIte, Nat.reduceEqDiff, initF, *] at a3
              clear hag hdep ho
              refine relStep_off rfl ?_
              (repeat' first
    | ((with_reducible refine at_row ?_); refine row1_a fun _ _ _ _ _ _ _ => ?_)
    | with_reducible first | (first | apply alloc_k | apply row_k); intro _ _ _ _ _ _ | (first | apply fork | apply forkp) <;> intro _ | refine forke (fun _ => ?_) fun _ _ => ?_ | refine tail_k fun _ _ _ => ?_ | refine ext_k fun _ _ _ => ?_ | refine need_a ?_ | refine st_agg KR rfl ON fun _ _ _ _ => ?_ | refine wpd_q_a ?_
    | simp (maxDischargeDepth := 3) only [↓X, ↓Y, ↓Q, S1, ↓reduceIte, Nat.reduceEqDiff, Nat.reduceAdd, Int.reduceLT, Int.reduceLE, Int.reduceNeg, Int.reduceBEq, Int.reduceBNe, Int.reduceEq, Nat.reduceLeDiff, Nat.reduceMul, Nat.reduceLT, *, driftC, replicaV, mkD]
    | simp (singlePass := true) (maxDischargeDepth := 99) only [*, S2, Nat.reduceLT, driftC, replicaV, mkD])
            · have e := Option.some.inj ho
              subst e
              have d7 : (gF 131) = .pointer (some ⟨b3, 1, none⟩) := hdep ⟨7, .data⟩ (by simp) rfl _ _ rfl rfl
              clear hag hdep ho
              refine relStep_off rfl ?_
              (repeat' first
    | ((with_reducible refine at_row ?_); refine row1_a fun _ _ _ _ _ _ _ => ?_)
    | with_reducible first | (first | apply alloc_k | apply row_k); intro _ _ _ _ _ _ | (first | apply fork | apply forkp) <;> intro _ | refine forke (fun _ => ?_) fun _ _ => ?_ | refine tail_k fun _ _ _ => ?_ | refine ext_k fun _ _ _ => ?_ | refine need_a ?_ | refine st_agg KR rfl ON fun _ _ _ _ => ?_ | refine wpd_q_a ?_
    | simp (maxDischargeDepth := 3) only [↓X, ↓Y, ↓Q, S1, ↓reduceIte, Nat.reduceEqDiff, Nat.reduceAdd, Int.reduceLT, Int.reduceLE, Int.reduceNeg, Int.reduceBEq, Int.reduceBNe, Int.reduceEq, Nat.reduceLeDiff, Nat.reduceMul, Nat.reduceLT, *, driftC, replicaV, mkD]
    | simp (singlePass := true) (maxDischargeDepth := 99) only [*, S2, Nat.reduceLT, driftC, replicaV, mkD])
            · have e := Option.some.inj ho
              subst e
              have a11 := hag.at 11 KR
              simp only [S5, ↓reduceIte, Nat.reduceEqDiff, initF, *] at a11
              clear hag hdep ho
              refine relStep_off rfl ?_
              (repeat' first
    | ((with_reducible refine at_row ?_); refine row1_a fun _ _ _ _ _ _ _ => ?_)
    | with_reducible first | (first | apply alloc_k | apply row_k); intro _ _ _ _ _ _ | (first | apply fork | apply forkp) <;> intro _ | refine forke (fun _ => ?_) fun _ _ => ?_ | refine tail_k fun _ _ _ => ?_ | refine ext_k fun _ _ _ => ?_ | refine need_a ?_ | refine st_agg KR rfl ON fun _ _ _ _ => ?_ | refine wpd_q_a ?_
    | simp (maxDischargeDepth := 3) only [↓X, ↓Y, ↓Q, S1, ↓reduceIte, Nat.reduceEqDiff, Nat.reduceAdd, Int.reduceLT, Int.reduceLE, Int.reduceNeg, Int.reduceBEq, Int.reduceBNe, Int.reduceEq, Nat.reduceLeDiff, Nat.reduceMul, Nat.reduceLT, *, driftC, replicaV, mkD]
    | simp (singlePass := true) (maxDischargeDepth := 99) only [*, S2, Nat.reduceLT, driftC, replicaV, mkD])
            · have e := Option.some.inj ho
              subst e
              have d8 : (gF 132) = rvb := hdep ⟨8, .data⟩ (by simp) rfl _ _ rfl rfl
              have d9 : (gF 133) = .int .i64 k := hdep ⟨9, .data⟩ (by simp) rfl _ _ rfl rfl
              clear hag hdep ho
              refine relStep_off rfl ?_
              (repeat' first
    | ((with_reducible refine at_row ?_); refine row1_a fun _ _ _ _ _ _ _ => ?_)
    | with_reducible first | (first | apply alloc_k | apply row_k); intro _ _ _ _ _ _ | (first | apply fork | apply forkp) <;> intro _ | refine forke (fun _ => ?_) fun _ _ => ?_ | refine tail_k fun _ _ _ => ?_ | refine ext_k fun _ _ _ => ?_ | refine need_a ?_ | refine st_agg KR rfl ON fun _ _ _ _ => ?_ | refine wpd_q_a ?_
    | simp (maxDischargeDepth := 3) only [↓X, ↓Y, ↓Q, S1, ↓reduceIte, Nat.reduceEqDiff, Nat.reduceAdd, Int.reduceLT, Int.reduceLE, Int.reduceNeg, Int.reduceBEq, Int.reduceBNe, Int.reduceEq, Nat.reduceLeDiff, Nat.reduceMul, Nat.reduceLT, *, driftC, replicaV, mkD]
    | simp (singlePass := true) (maxDischargeDepth := 99) only [*, S2, Nat.reduceLT, driftC, replicaV, mkD])
            · have e := Option.some.inj ho
              subst e
              have d10 : (gF 134) = elemAt rvb 2 k := hdep ⟨10, .data⟩ (by simp) rfl _ _ rfl rfl
              clear hag hdep ho
              refine relStep_off rfl ?_
              (repeat' first
    | ((with_reducible refine at_row ?_); refine row1_a fun _ _ _ _ _ _ _ => ?_)
    | with_reducible first | (first | apply alloc_k | apply row_k); intro _ _ _ _ _ _ | (first | apply fork | apply forkp) <;> intro _ | refine forke (fun _ => ?_) fun _ _ => ?_ | refine tail_k fun _ _ _ => ?_ | refine ext_k fun _ _ _ => ?_ | refine need_a ?_ | refine st_agg KR rfl ON fun _ _ _ _ => ?_ | refine wpd_q_a ?_
    | simp (maxDischargeDepth := 3) only [↓X, ↓Y, ↓Q, S1, ↓reduceIte, Nat.reduceEqDiff, Nat.reduceAdd, Int.reduceLT, Int.reduceLE, Int.reduceNeg, Int.reduceBEq, Int.reduceBNe, Int.reduceEq, Nat.reduceLeDiff, Nat.reduceMul, Nat.reduceLT, *, driftC, replicaV, mkD]
    | simp (singlePass := true) (maxDischargeDepth := 99) only [*, S2, Nat.reduceLT, driftC, replicaV, mkD])
            · have e := Option.some.inj ho
              subst e
              have d11 : (gF 135) = addF (elemAt rvb 2 k) 0 := hdep ⟨11, .data⟩ (by simp) rfl _ _ rfl rfl
              clear hag hdep ho
              refine relStep_off rfl ?_
              (repeat' first
    | ((with_reducible refine at_row ?_); refine row1_a fun _ _ _ _ _ _ _ => ?_)
    | with_reducible first | (first | apply alloc_k | apply row_k); intro _ _ _ _ _ _ | (first | apply fork | apply forkp) <;> intro _ | refine forke (fun _ => ?_) fun _ _ => ?_ | refine tail_k fun _ _ _ => ?_ | refine ext_k fun _ _ _ => ?_ | refine need_a ?_ | refine st_agg KR rfl ON fun _ _ _ _ => ?_ | refine wpd_q_a ?_
    | simp (maxDischargeDepth := 3) only [↓X, ↓Y, ↓Q, S1, ↓reduceIte, Nat.reduceEqDiff, Nat.reduceAdd, Int.reduceLT, Int.reduceLE, Int.reduceNeg, Int.reduceBEq, Int.reduceBNe, Int.reduceEq, Nat.reduceLeDiff, Nat.reduceMul, Nat.reduceLT, *, driftC, replicaV, mkD]
    | simp (singlePass := true) (maxDischargeDepth := 99) only [*, S2, Nat.reduceLT, driftC, replicaV, mkD])
            · have e := Option.some.inj ho
              subst e
              have d6 : (gF 130) = intV y.replicas[k].host := hdep ⟨6, .data⟩ (by simp) rfl _ _ rfl rfl
              have d12 : (gF 136) = intV y.replicas[k].service := hdep ⟨12, .data⟩ (by simp) rfl _ _ rfl rfl
              clear hag hdep ho
              refine relStep_off rfl ?_
              (repeat' first
    | ((with_reducible refine at_row ?_); refine row1_a fun _ _ _ _ _ _ _ => ?_)
    | with_reducible first | (first | apply alloc_k | apply row_k); intro _ _ _ _ _ _ | (first | apply fork | apply forkp) <;> intro _ | refine forke (fun _ => ?_) fun _ _ => ?_ | refine tail_k fun _ _ _ => ?_ | refine ext_k fun _ _ _ => ?_ | refine need_a ?_ | refine st_agg KR rfl ON fun _ _ _ _ => ?_ | refine wpd_q_a ?_
    | simp (maxDischargeDepth := 3) only [↓X, ↓Y, ↓Q, S1, ↓reduceIte, Nat.reduceEqDiff, Nat.reduceAdd, Int.reduceLT, Int.reduceLE, Int.reduceNeg, Int.reduceBEq, Int.reduceBNe, Int.reduceEq, Nat.reduceLeDiff, Nat.reduceMul, Nat.reduceLT, *, driftC, replicaV, mkD]
    | simp (singlePass := true) (maxDischargeDepth := 99) only [*, S2, Nat.reduceLT, driftC, replicaV, mkD])
            · have e := Option.some.inj ho
              subst e
              have d13 : (gF 137) = .agg (driftC (mkD 2 y.replicas[k])).toArray := hdep ⟨13, .data⟩ (by simp) rfl _ _ rfl rfl
              clear hag hdep ho
              refine relStep_off rfl ?_
              (repeat' first
    | ((with_reducible refine at_row ?_); refine row1_a fun _ _ _ _ _ _ _ => ?_)
    | with_reducible first | (first | apply alloc_k | apply row_k); intro _ _ _ _ _ _ | (first | apply fork | apply forkp) <;> intro _ | refine forke (fun _ => ?_) fun _ _ => ?_ | refine tail_k fun _ _ _ => ?_ | refine ext_k fun _ _ _ => ?_ | refine need_a ?_ | refine st_agg KR rfl ON fun _ _ _ _ => ?_ | refine wpd_q_a ?_
    | simp (maxDischargeDepth := 3) only [↓X, ↓Y, ↓Q, S1, ↓reduceIte, Nat.reduceEqDiff, Nat.reduceAdd, Int.reduceLT, Int.reduceLE, Int.reduceNeg, Int.reduceBEq, Int.reduceBNe, Int.reduceEq, Nat.reduceLeDiff, Nat.reduceMul, Nat.reduceLT, *, driftC, replicaV, mkD]
    | simp (singlePass := true) (maxDischargeDepth := 99) only [*, S2, Nat.reduceLT, driftC, replicaV, mkD])
              first
                | (rename_i b10 w10 n10 k10 s10 q10; exact ⟨_, rfl, k10.2.1 _ k10.2.2.1, FR⟩)
                | (rename_i b10 w10 n10 k10 s10 q10 l10; exact ⟨_, rfl, k10.2.1 _ k10.2.2.1, FR⟩)
            · omega
          · intro g9 w9 hx9 hR hag
            have s9 := hx9.st
            have n9 : Now w9 := trivial
            have r9 := Ext.refl w9
            have z9 := hx9.size
            have d0 : (g9 124) = vr := hR 0 _ _ (by decide) rfl rfl
            have d14 : ∃ b, (g9 138) = .slice (some ⟨b, 0, none⟩) 1 1 ∧ Blk w9 b 42 (driftC (mkD 2 y.replicas[k])) ∧ wY.heap.size ≤ b := hR 14 _ _ (by decide) rfl rfl
            obtain ⟨b14, e14, hb14, q14⟩ := d14
            have k14 := hb14.bk
            have nw14 := Nw.of q14
            have a2 := hag.at 2 KR
            have a3 := hag.at 3 KR
            have a11 := hag.at 11 KR
            simp only [S5, ↓reduceIte, Nat.reduceEqDiff, initF, *] at a2 a3 a11
            clear hag hR
            simp only [List.drop_succ_cons, List.drop_zero]
            have hx9L : Ext wL w9 := (hxk.trans hxE).trans hx9
            (repeat' first
    | ((with_reducible refine at_row ?_); refine row1_a fun _ _ _ _ _ _ _ => ?_)
    | with_reducible first | (first | apply alloc_k | apply row_k); intro _ _ _ _ _ _ | (first | apply fork | apply forkp) <;> intro _ | refine forke (fun _ => ?_) fun _ _ => ?_ | refine tail_k fun _ _ _ => ?_ | refine ext_k fun _ _ _ => ?_ | refine need_a ?_ | refine st_agg KR rfl ON fun _ _ _ _ => ?_ | refine wpd_q_a ?_
    | simp (maxDischargeDepth := 3) only [↓X, ↓Y, ↓Q, S1, ↓reduceIte, Nat.reduceEqDiff, Nat.reduceAdd, Int.reduceLT, Int.reduceLE, Int.reduceNeg, Int.reduceBEq, Int.reduceBNe, Int.reduceEq, Nat.reduceLeDiff, Nat.reduceMul, Nat.reduceLT, *]
    | simp (singlePass := true) (maxDischargeDepth := 99) only [*, S2, Nat.reduceLT])
            refine appD (mkD 2 y.replicas[k]) (hown.ext (hxE.trans hx9)) (k14.2.1 _ FR) hbd.out hx9L.size fun v' w7 n7 s7 _ hown7 => ?_
            have hxL7 : Ext wL w7 := s7.2.2.1 _ hx9L (Nat.le_refl _)
            (repeat' first
    | ((with_reducible refine at_row ?_); refine row1_a fun _ _ _ _ _ _ _ => ?_)
    | with_reducible first | (first | apply alloc_k | apply row_k); intro _ _ _ _ _ _ | (first | apply fork | apply forkp) <;> intro _ | refine forke (fun _ => ?_) fun _ _ => ?_ | refine tail_k fun _ _ _ => ?_ | refine ext_k fun _ _ _ => ?_ | refine need_a ?_ | refine st_agg KR rfl ON fun _ _ _ _ => ?_ | refine wpd_q_a ?_
    | simp (maxDischargeDepth := 3) only [↓X, ↓Y, ↓Q, S1, ↓reduceIte, Nat.reduceEqDiff, Nat.reduceAdd, Int.reduceLT, Int.reduceLE, Int.reduceNeg, Int.reduceBEq, Int.reduceBNe, Int.reduceEq, Nat.reduceLeDiff, Nat.reduceMul, Nat.reduceLT, *]
    | simp (singlePass := true) (maxDischargeDepth := 99) only [*, S2, Nat.reduceLT])
            refine next_g hk hlt ?_
            (repeat' first
    | ((with_reducible refine at_row ?_); refine row1_a fun _ _ _ _ _ _ _ => ?_)
    | with_reducible first | (first | apply alloc_k | apply row_k); intro _ _ _ _ _ _ | (first | apply fork | apply forkp) <;> intro _ | refine forke (fun _ => ?_) fun _ _ => ?_ | refine tail_k fun _ _ _ => ?_ | refine ext_k fun _ _ _ => ?_ | refine need_a ?_ | refine st_agg KR rfl ON fun _ _ _ _ => ?_ | refine wpd_q_a ?_
    | simp (maxDischargeDepth := 3) only [↓X, ↓Y, ↓Q, S1, ↓reduceIte, Nat.reduceEqDiff, Nat.reduceAdd, Int.reduceLT, Int.reduceLE, Int.reduceNeg, Int.reduceBEq, Int.reduceBNe, Int.reduceEq, Nat.reduceLeDiff, Nat.reduceMul, Nat.reduceLT, *]
    | simp (singlePass := true) (maxDischargeDepth := 99) only [*, S2, Nat.reduceLT])
            have e2 := ht.out
            rw [if_neg (by rw [hno]; decide)] at e2
            refine ⟨_, rfl, ?_⟩
            rw [e2, List.map_append, ← List.append_assoc]
            exact hown7
      · clear hi hxk hown k2 k3 rk nk
        rintro g wk nk ⟨hi, hf, hxk, vr, hv6, hown⟩
        simp (maxDischargeDepth := 3) only [U, ↓reduceIte, Nat.reduceEqDiff, *] at hf
        rw [List.take_length] at hown
        have k2 := (K2.ext hxk).bk
        have k3 := (K3.ext hxk).bk
        have rk : Ext wk wk := Ext.refl wk
        have hge : ¬ (y.replicas.length : Int) < (y.replicas.length : Int) := by omega
        have hok9 : diffOk x y = true := by simp [diffOk, heq.out, hsa, hsb]
        have F9 : Hid (OwnD wk w.heap.size vr (diffL x y) ∧ diffE x y = 0) := by
          refine ⟨?_, by simp [diffE, hok9]⟩
          have := hown.more hxL.size
          rw [List.append_assoc] at this
          exact this
        have hxz : Ext w wk := hxL.trans hxk
        (repeat' first
    | ((with_reducible refine at_row ?_); refine row1_a fun _ _ _ _ _ _ _ => ?_)
    | with_reducible first | (first | apply alloc_k | apply row_k); intro _ _ _ _ _ _ | (first | apply fork | apply forkp) <;> intro _ | refine forke (fun _ => ?_) fun _ _ => ?_ | refine tail_k fun _ _ _ => ?_ | refine ext_k fun _ _ _ => ?_ | refine need_a ?_ | refine st_agg KR rfl ON fun _ _ _ _ => ?_ | refine wpd_q_a ?_
    | simp (maxDischargeDepth := 3) only [↓X, ↓Y, ↓Q, S1, ↓reduceIte, Nat.reduceEqDiff, Nat.reduceAdd, Int.reduceLT, Int.reduceLE, Int.reduceNeg, Int.reduceBEq, Int.reduceBNe, Int.reduceEq, Nat.reduceLeDiff, Nat.reduceMul, Nat.reduceLT, *]
    | simp (singlePass := true) (maxDischargeDepth := 99) only [*, S2, Nat.reduceLT])
        exact ⟨vr, by rw [F9.out.2], F9.out.1⟩
end
end Go.Proofs.Ytmcdgepfhpakiaa
