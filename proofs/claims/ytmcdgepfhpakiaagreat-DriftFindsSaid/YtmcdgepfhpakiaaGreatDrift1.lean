
/- The layer drift: ascending, add. -/
import Derived.Test.YtmcdgepfhpakiaaGreatPure30
import Derived.Test.YtmcdgepfhpakiaaGreatRel3
import Derived.Test.YtmcdgepfhpakiaaGreatRelS2
import Derived.Test.YtmcdgepfhpakiaaGreatOwn1
import Derived.Test.YtmcdgepfhpakiaaGreatStart13b
namespace Go.Proofs.YtmcdgepfhpakiaaGreat
set_option linter.unusedSimpArgs false
set_option linter.unusedVariables false
open Go Go.RowKit
set_option maxRecDepth 100000
set_option linter.unusedSectionVars false
set_option maxHeartbeats 2000000
theorem ord_lt {a b : ReplicaD} : ordI a b < 0 ↔ a.service < b.service ∨ (a.service = b.service ∧ a.host < b.host) := by
  rcases Int.lt_trichotomy a.service b.service with h1 | h1 | h1
  · have h2 : ordI a b = -1 := by simp [ordI, cmpI, h1]
    omega
  · have h2 : ordI a b = cmpI a.host b.host := by simp [ordI, cmpI, h1]
    rw [h2]
    unfold cmpI
    split
    · omega
    · split <;> omega
  · have h2 : ordI a b = 1 := by
      have h3 : ¬ a.service < b.service := by omega
      simp [ordI, cmpI, h1, h3]
    omega
theorem not_sorted {l : List ReplicaD} {k : Nat} (h1 : k + 1 < l.length) (h : ¬ (l[k].service < l[k + 1].service ∨ (l[k].service = l[k + 1].service ∧ l[k].host < l[k + 1].host))) : sortedB l = false := by
  rw [← Bool.not_eq_true, sortedB_iff]
  exact fun h2 => h (ord_lt.1 (h2 k h1))
section
variable {w : World} {B : Nat} {hv rv : Value} {x : WorldD}
theorem driftAscending (hB : B ≤ w.heap.size) (hx0 : WorldR w B hv rv x) : Ret Tryz.prog 33 #[.agg #[hv, rv]] w (.bool (sortedB x.replicas)) := by
  have hn : Now w := trivial
  have hx : Ext w w := Ext.refl w
  have hx' := hx0.sk hB
  have hX := hx'.2.2.2.2
  have hmax := hx0.r.max_
  (refine callsV_of Tryz.func33 rfl KR KR ?_; rw [Tryz.results33])
  (repeat' first
    | ((with_reducible refine at_row ?_); refine row1_a fun _ _ _ _ _ _ _ => ?_)
    | with_reducible first | (first | apply alloc_k | apply row_k); intro _ _ _ _ _ _ | (first | apply fork | apply forkp) <;> intro _ | refine forke (fun _ => ?_) fun _ _ => ?_ | refine tail_k fun _ _ _ => ?_ | refine ext_k fun _ _ _ => ?_ | refine need_a ?_ | refine st_agg KR rfl ON fun _ _ _ _ => ?_ | refine wpd_q_a ?_
    | simp (maxDischargeDepth := 3) only [↓X, ↓Y, ↓Q, S1, ↓reduceIte, Nat.reduceEqDiff, Nat.reduceAdd, Int.reduceLT, Int.reduceLE, Int.reduceNeg, Int.reduceBEq, Int.reduceBNe, Int.reduceEq, Nat.reduceLeDiff, Nat.reduceMul, Nat.reduceLT, *]
    | simp (singlePass := true) (maxDischargeDepth := 99) only [*, S2, Nat.reduceLT])
  rename_i bx wb nb kb sb qb
  refine loop_k x.replicas.length (fun g0 k g _ => g 3 = .int .i64 ((k + 1 : Nat) : Int) ∧ (g 1 = g0 1) ∧ Hid (∀ j (h : j + 1 < x.replicas.length), j < k → ordI x.replicas[j] x.replicas[j + 1] < 0)) KR hmax ?_ ?_ ?_
  · (repeat' first
    | ((with_reducible refine at_row ?_); refine row1_a fun _ _ _ _ _ _ _ => ?_)
    | with_reducible first | (first | apply alloc_k | apply row_k); intro _ _ _ _ _ _ | (first | apply fork | apply forkp) <;> intro _ | refine forke (fun _ => ?_) fun _ _ => ?_ | refine tail_k fun _ _ _ => ?_ | refine ext_k fun _ _ _ => ?_ | refine need_a ?_ | refine st_agg KR rfl ON fun _ _ _ _ => ?_ | refine wpd_q_a ?_
    | simp (maxDischargeDepth := 3) only [↓X, ↓Y, ↓Q, S1, ↓reduceIte, Nat.reduceEqDiff, Nat.reduceAdd, Int.reduceLT, Int.reduceLE, Int.reduceNeg, Int.reduceBEq, Int.reduceBNe, Int.reduceEq, Nat.reduceLeDiff, Nat.reduceMul, Nat.reduceLT, *]
    | simp (singlePass := true) (maxDischargeDepth := 99) only [*, S2, Nat.reduceLT])
    exact ⟨rfl, fun j _ h => absurd h (by omega)⟩
  · rintro k m g wk hk hlt _ _ _ hw ⟨hi, hf, hp⟩
    simp (maxDischargeDepth := 3) only [U, ↓reduceIte, Nat.reduceEqDiff, *] at hf
    by_cases h1 : k + 1 < x.replicas.length
    · have hw1 : IntKind.i64.wrap (((k + 1 : Nat) : Int) - 1) = (k : Int) := by rw [show ((k + 1 : Nat) : Int) - 1 = (k : Int) by omega, wrap_nat (by omega)]
      have hw2 : IntKind.i64.wrap (((k + 1 : Nat) : Int) + 1) = ((k + 1 + 1 : Nat) : Int) := by rw [wrap_i64_id] <;> omega
      (repeat' first
    | ((with_reducible refine wpd_at 4 ?_); refine wpd_hold ?_)
    | ((with_reducible refine at_row ?_); refine row1_a fun _ _ _ _ _ _ _ => ?_)
    | with_reducible first | (first | apply alloc_k | apply row_k); intro _ _ _ _ _ _ | (first | apply fork | apply forkp) <;> intro _ | refine forke (fun _ => ?_) fun _ _ => ?_ | refine tail_k fun _ _ _ => ?_ | refine ext_k fun _ _ _ => ?_ | refine need_a ?_ | refine st_agg KR rfl ON fun _ _ _ _ => ?_ | refine wpd_q_a ?_
    | simp (maxDischargeDepth := 3) only [↓X, ↓Y, ↓Q, S1, ↓reduceIte, Nat.reduceEqDiff, Nat.reduceAdd, Int.reduceLT, Int.reduceLE, Int.reduceNeg, Int.reduceBEq, Int.reduceBNe, Int.reduceEq, Nat.reduceLeDiff, Nat.reduceMul, Nat.reduceLT, *]
    | simp (singlePass := true) (maxDischargeDepth := 99) only [*, S2, Nat.reduceLT])
      have hk1 : k < x.replicas.length := by omega
      unfold wpdH
      refine wpd_relS2 14 [(13, 11)] (fun iI s v w9 => match iI with
        | 0 => v = .pointer (some ⟨bx, 1, none⟩)
        | 1 => v = rv
        | 2 => v = .int .i64 ((k + 1 : Nat) : Int)
        | 3 => v = .int .i64 k
        | 4 => v = elemAt rv 2 k
        | 5 => v = replicaV x.replicas[k]
        | 6 => v = .pointer (some ⟨bx, 1, none⟩)
        | 7 => v = rv
        | 8 => v = .int .i64 ((k + 1 : Nat) : Int)
        | 9 => v = elemAt rv 2 (k + 1)
        | 10 => v = replicaV x.replicas[k + 1]
        | 11 => ∃ b, v = .pointer (some ⟨b, 0, none⟩) ∧ (wk.heap.size ≤ b ∧ b < w9.heap.size) ∧ (s = false → Blk w9 b 78 [.int .i64 0, .int .i64 0]) ∧ (s = true → Blk w9 b 78 [intV x.replicas[k].service, intV x.replicas[k].host])
        | 12 => ∃ b, v = .pointer (some ⟨b, 0, none⟩) ∧ (wk.heap.size ≤ b ∧ b < w9.heap.size) ∧ (s = false → Blk w9 b 78 [.int .i64 0, .int .i64 0]) ∧ (s = true → True)
        | 13 => True
        | _ => False) (fun iI => iI == 11 || iI == 12) ?_ KR KR KR KR ?_ ?_ ?_
      · intro iI s v w9 hF hR b hb
        match iI, hF, hR with
        | 0, hF, _ => exact absurd hF (by decide)
        | 1, hF, _ => exact absurd hF (by decide)
        | 2, hF, _ => exact absurd hF (by decide)
        | 3, hF, _ => exact absurd hF (by decide)
        | 4, hF, _ => exact absurd hF (by decide)
        | 5, hF, _ => exact absurd hF (by decide)
        | 6, hF, _ => exact absurd hF (by decide)
        | 7, hF, _ => exact absurd hF (by decide)
        | 8, hF, _ => exact absurd hF (by decide)
        | 9, hF, _ => exact absurd hF (by decide)
        | 10, hF, _ => exact absurd hF (by decide)
        | 11, _, ⟨b2, e, h1, _⟩ => subst e; obtain rfl := Option.some.inj hb; exact h1.2
        | 12, _, ⟨b2, e, h1, _⟩ => subst e; obtain rfl := Option.some.inj hb; exact h1.2
        | 13, hF, _ => exact absurd hF (by decide)
      · intro iI s v w1 w2 hR hx9
        match iI, hR with
        | 0, h => exact h
        | 1, h => exact h
        | 2, h => exact h
        | 3, h => exact h
        | 4, h => exact h
        | 5, h => exact h
        | 6, h => exact h
        | 7, h => exact h
        | 8, h => exact h
        | 9, h => exact h
        | 10, h => exact h
        | 11, ⟨b, e, h1, h2, h3⟩ => exact ⟨b, e, ⟨h1.1, Nat.lt_of_lt_of_le h1.2 hx9.size⟩, fun hs => (h2 hs).ext hx9, fun hs => (fun h => (h.ext hx9)) (h3 hs)⟩
        | 12, ⟨b, e, h1, h2, h3⟩ => exact ⟨b, e, ⟨h1.1, Nat.lt_of_lt_of_le h1.2 hx9.size⟩, fun hs => (h2 hs).ext hx9, fun hs => (fun h => trivial) (h3 hs)⟩
        | 13, h => exact h
      · intro iI oO hi ho gF w9 S9 hx9 hdep hag
        have s9 := hx9.st
        have n9 : Now w9 := trivial
        have r9 := Ext.refl w9
        have z9 := hx9.size
        rcases iI with _|_|_|_|_|_|_|_|_|_|_|_|_|_|iI
        have e := Option.some.inj ho
        subst e
        have a1 := hag.at 1 KR
        simp only [S5, ↓reduceIte, Nat.reduceEqDiff, initF, *] at a1
        clear hag hdep ho
        refine ⟨fun _ _ => ?_, fun _ hF => absurd hF (by decide), fun a9 pa da hal => by simp [alL] at hal⟩
        refine relStep_off rfl ?_
        rotate_left
        have e := Option.some.inj ho
        subst e
        have d0 : (gF 13) = .pointer (some ⟨bx, 1, none⟩) := hdep ⟨0, .data⟩ (by simp) rfl _ _ rfl rfl
        clear hag hdep ho
        refine ⟨fun _ _ => ?_, fun _ hF => absurd hF (by decide), fun a9 pa da hal => by simp [alL] at hal⟩
        refine relStep_off rfl ?_
        rotate_left
        have e := Option.some.inj ho
        subst e
        have a3 := hag.at 3 KR
        simp only [S5, ↓reduceIte, Nat.reduceEqDiff, initF, *] at a3
        clear hag hdep ho
        refine ⟨fun _ _ => ?_, fun _ hF => absurd hF (by decide), fun a9 pa da hal => by simp [alL] at hal⟩
        refine relStep_off rfl ?_
        rotate_left
        have e := Option.some.inj ho
        subst e
        have d2 : (gF 15) = .int .i64 ((k + 1 : Nat) : Int) := hdep ⟨2, .data⟩ (by simp) rfl _ _ rfl rfl
        clear hag hdep ho
        refine ⟨fun _ _ => ?_, fun _ hF => absurd hF (by decide), fun a9 pa da hal => by simp [alL] at hal⟩
        refine relStep_off rfl ?_
        rotate_left
        have e := Option.some.inj ho
        subst e
        have d1 : (gF 14) = rv := hdep ⟨1, .data⟩ (by simp) rfl _ _ rfl rfl
        have d3 : (gF 16) = .int .i64 k := hdep ⟨3, .data⟩ (by simp) rfl _ _ rfl rfl
        clear hag hdep ho
        refine ⟨fun _ _ => ?_, fun _ hF => absurd hF (by decide), fun a9 pa da hal => by simp [alL] at hal⟩
        refine relStep_off rfl ?_
        rotate_left
        have e := Option.some.inj ho
        subst e
        have d4 : (gF 17) = elemAt rv 2 k := hdep ⟨4, .data⟩ (by simp) rfl _ _ rfl rfl
        clear hag hdep ho
        refine ⟨fun _ _ => ?_, fun _ hF => absurd hF (by decide), fun a9 pa da hal => by simp [alL] at hal⟩
        refine relStep_off rfl ?_
        rotate_left
        have e := Option.some.inj ho
        subst e
        have a1 := hag.at 1 KR
        simp only [S5, ↓reduceIte, Nat.reduceEqDiff, initF, *] at a1
        clear hag hdep ho
        refine ⟨fun _ _ => ?_, fun _ hF => absurd hF (by decide), fun a9 pa da hal => by simp [alL] at hal⟩
        refine relStep_off rfl ?_
        rotate_left
        have e := Option.some.inj ho
        subst e
        have d6 : (gF 19) = .pointer (some ⟨bx, 1, none⟩) := hdep ⟨6, .data⟩ (by simp) rfl _ _ rfl rfl
        clear hag hdep ho
        refine ⟨fun _ _ => ?_, fun _ hF => absurd hF (by decide), fun a9 pa da hal => by simp [alL] at hal⟩
        refine relStep_off rfl ?_
        rotate_left
        have e := Option.some.inj ho
        subst e
        have a3 := hag.at 3 KR
        simp only [S5, ↓reduceIte, Nat.reduceEqDiff, initF, *] at a3
        clear hag hdep ho
        refine ⟨fun _ _ => ?_, fun _ hF => absurd hF (by decide), fun a9 pa da hal => by simp [alL] at hal⟩
        refine relStep_off rfl ?_
        rotate_left
        have e := Option.some.inj ho
        subst e
        have d7 : (gF 20) = rv := hdep ⟨7, .data⟩ (by simp) rfl _ _ rfl rfl
        have d8 : (gF 21) = .int .i64 ((k + 1 : Nat) : Int) := hdep ⟨8, .data⟩ (by simp) rfl _ _ rfl rfl
        clear hag hdep ho
        refine ⟨fun _ _ => ?_, fun _ hF => absurd hF (by decide), fun a9 pa da hal => by simp [alL] at hal⟩
        refine relStep_off rfl ?_
        rotate_left
        have e := Option.some.inj ho
        subst e
        have d9 : (gF 22) = elemAt rv 2 (k + 1) := hdep ⟨9, .data⟩ (by simp) rfl _ _ rfl rfl
        clear hag hdep ho
        refine ⟨fun _ _ => ?_, fun _ hF => absurd hF (by decide), fun a9 pa da hal => by simp [alL] at hal⟩
        refine relStep_off rfl ?_
        rotate_left
        have e := Option.some.inj ho
        subst e
        clear hag hdep ho
        refine ⟨fun _ hF => absurd hF (by decide), fun _ _ => ?_, fun a9 pa da hal => by simp [alL] at hal⟩
        refine relStep_off rfl ?_
        rotate_left
        have e := Option.some.inj ho
        subst e
        clear hag hdep ho
        refine ⟨fun _ hF => absurd hF (by decide), fun _ _ => ?_, fun a9 pa da hal => by simp [alL] at hal⟩
        refine relStep_off rfl ?_
        rotate_left
        have e := Option.some.inj ho
        subst e
        have d11 : ∃ b, (gF 4) = .pointer (some ⟨b, 0, none⟩) ∧ (wk.heap.size ≤ b ∧ b < w9.heap.size) ∧ ((S9 11) = false → Blk w9 b 78 [.int .i64 0, .int .i64 0]) ∧ ((S9 11) = true → Blk w9 b 78 [intV x.replicas[k].service, intV x.replicas[k].host]) := hdep ⟨11, .data⟩ (by simp) rfl _ _ rfl rfl
        obtain ⟨b11, e11, ⟨q11, l11⟩, hz11, _⟩ := d11
        have d5 : (gF 18) = replicaV x.replicas[k] := hdep ⟨5, .data⟩ (by simp) rfl _ _ rfl rfl
        clear hag hdep ho
        refine ⟨fun h => by simp [alL] at h, fun h => by simp [alL] at h, fun a9 pa da hal hS9 hpa hda => ?_⟩
        obtain rfl : 11 = a9 := by simpa [alL] using hal
        obtain rfl := Option.some.inj hpa
        obtain rfl := Option.some.inj hda
        have hz := hz11 hS9
        clear hal hpa hda hz11
        refine relStep_off rfl ?_
        rotate_left
        · omega
        all_goals (repeat' first
    | ((with_reducible refine at_row ?_); refine row1_a fun _ _ _ _ _ _ _ => ?_)
    | with_reducible first | (first | apply alloc_k | apply row_k); intro _ _ _ _ _ _ | (first | apply fork | apply forkp) <;> intro _ | refine forke (fun _ => ?_) fun _ _ => ?_ | refine tail_k fun _ _ _ => ?_ | refine ext_k fun _ _ _ => ?_ | refine need_a ?_ | refine st_agg KR rfl ON fun _ _ _ _ => ?_ | refine wpd_q_a ?_
    | simp (maxDischargeDepth := 3) only [↓X, ↓Y, ↓Q, S1, ↓reduceIte, Nat.reduceEqDiff, Nat.reduceAdd, Int.reduceLT, Int.reduceLE, Int.reduceNeg, Int.reduceBEq, Int.reduceBNe, Int.reduceEq, Nat.reduceLeDiff, Nat.reduceMul, Nat.reduceLT, *, replicaV]
    | simp (singlePass := true) (maxDischargeDepth := 99) only [*, S2, Nat.reduceLT, replicaV])
        all_goals first
          | (rename_i b10 w10 n10 k10 s10 q10; exact ⟨⟨_, rfl, ⟨FR, FR⟩, fun _ => k10.2.1 _ k10.2.2.1, fun h => absurd h (by decide)⟩, fun b hb => by obtain rfl := Option.some.inj hb; exact FR⟩)
          | (
              refine stT_agg (w0 := w9) (vs := [intV x.replicas[k].service, intV x.replicas[k].host]) hz rfl KR rfl (by simp [intV, Value.oneCell']) fun w10 hb10 hc => ⟨b11, hc, q11, ⟨b11, (by first | exact e11 | rfl), ⟨q11, Nat.lt_of_lt_of_le l11 hc.size⟩, fun h => absurd h (by decide), fun _ => hb10⟩, ?_⟩
              intro iI s v hne hN hR
              match iI, hN, hR with
              | 0, _, h | 1, _, h | 2, _, h | 3, _, h | 4, _, h | 5, _, h | 6, _, h | 7, _, h | 8, _, h | 9, _, h | 10, _, h | 13, _, h => exact h
              | 11, _, _ => exact absurd rfl hne
              | 12, hN, ⟨b, e, h1, h2, h3⟩ => have hb : b ≠ b11 := (fun h9 => hN (by decide) (by decide) b (by rw [e]; rfl) (by first | (rw [e11, h9]; rfl) | (rw [h9]; rfl))); exact ⟨b, e, ⟨h1.1, Nat.lt_of_lt_of_le h1.2 hc.size⟩, fun hs => hc.blk (h2 hs) hb, fun hs => (fun h => trivial) (h3 hs)⟩)
      · intro g9 w9 hx9 hR hDis hag
        have s9 := hx9.st
        have n9 : Now w9 := trivial
        have r9 := Ext.refl w9
        have z9 := hx9.size
        have d10 : (g9 23) = replicaV x.replicas[k + 1] := hR 10 _ _ (by decide) rfl rfl
        have d11 : ∃ b, (g9 4) = .pointer (some ⟨b, 0, none⟩) ∧ (wk.heap.size ≤ b ∧ b < w9.heap.size) ∧ (true = false → Blk w9 b 78 [.int .i64 0, .int .i64 0]) ∧ (true = true → Blk w9 b 78 [intV x.replicas[k].service, intV x.replicas[k].host]) := hR 11 _ _ (by decide) rfl rfl
        obtain ⟨b11, e11, ⟨q11, _⟩, _, f11⟩ := d11
        replace f11 := f11 rfl
        have nw11 := Nw.of q11
        have K11 := f11.bk
        have d12 : ∃ b, (g9 5) = .pointer (some ⟨b, 0, none⟩) ∧ (wk.heap.size ≤ b ∧ b < w9.heap.size) ∧ (false = false → Blk w9 b 78 [.int .i64 0, .int .i64 0]) ∧ (false = true → True) := hR 12 _ _ (by decide) rfl rfl
        obtain ⟨b12, e12, ⟨q12, _⟩, f12, _⟩ := d12
        have k12 := (f12 rfl).bk
        clear f12
        have nw12 := Nw.of q12
        have a1 := hag.at 1 KR
        have a3 := hag.at 3 KR
        simp only [S5, ↓reduceIte, Nat.reduceEqDiff, initF, *] at a1 a3
        have dis11_12 : ¬ b11 = b12 := fun h9 => hDis 11 12 _ _ _ _ (by decide) (by decide) (by decide) rfl rfl rfl rfl rfl rfl b11 (by rw [e11]; rfl) (by rw [e12, h9]; rfl)
        have dis12_11 : ¬ b12 = b11 := fun h9 => hDis 12 11 _ _ _ _ (by decide) (by decide) (by decide) rfl rfl rfl rfl rfl rfl b12 (by rw [e12]; rfl) (by rw [e11, h9]; rfl)
        clear hag hR hDis
        simp only [List.drop_succ_cons, List.drop_zero]
        (repeat' first
    | ((with_reducible refine at_row ?_); refine row1_a fun _ _ _ _ _ _ _ => ?_)
    | with_reducible first | (first | apply alloc_k | apply row_k); intro _ _ _ _ _ _ | (first | apply fork | apply forkp) <;> intro _ | refine forke (fun _ => ?_) fun _ _ => ?_ | refine tail_k fun _ _ _ => ?_ | refine ext_k fun _ _ _ => ?_ | refine need_a ?_ | refine st_agg KR rfl ON fun _ _ _ _ => ?_ | refine wpd_q_a ?_
    | simp (maxDischargeDepth := 3) only [↓X, ↓Y, ↓Q, S1, ↓reduceIte, Nat.reduceEqDiff, Nat.reduceAdd, Int.reduceLT, Int.reduceLE, Int.reduceNeg, Int.reduceBEq, Int.reduceBNe, Int.reduceEq, Nat.reduceLeDiff, Nat.reduceMul, Nat.reduceLT, *, replicaV]
    | simp (singlePass := true) (maxDischargeDepth := 99) only [*, S2, Nat.reduceLT, replicaV])
        all_goals try (rw [not_sorted h1 (by omega)]; done)
        all_goals refine next_k hk hlt ?_ FR
        all_goals (repeat' first
    | ((with_reducible refine at_row ?_); refine row1_a fun _ _ _ _ _ _ _ => ?_)
    | with_reducible first | (first | apply alloc_k | apply row_k); intro _ _ _ _ _ _ | (first | apply fork | apply forkp) <;> intro _ | refine forke (fun _ => ?_) fun _ _ => ?_ | refine tail_k fun _ _ _ => ?_ | refine ext_k fun _ _ _ => ?_ | refine need_a ?_ | refine st_agg KR rfl ON fun _ _ _ _ => ?_ | refine wpd_q_a ?_
    | simp (maxDischargeDepth := 3) only [↓X, ↓Y, ↓Q, S1, ↓reduceIte, Nat.reduceEqDiff, Nat.reduceAdd, Int.reduceLT, Int.reduceLE, Int.reduceNeg, Int.reduceBEq, Int.reduceBNe, Int.reduceEq, Nat.reduceLeDiff, Nat.reduceMul, Nat.reduceLT, *]
    | simp (singlePass := true) (maxDischargeDepth := 99) only [*, S2, Nat.reduceLT])
        all_goals
          refine fun j hj hjk => ?_
          rcases Nat.lt_or_eq_of_le (Nat.le_of_lt_succ hjk) with h3 | rfl
          · exact hp.out j hj h3
          · exact ord_lt.2 (by omega)
    · (repeat' first
    | ((with_reducible refine at_row ?_); refine row1_a fun _ _ _ _ _ _ _ => ?_)
    | with_reducible first | (first | apply alloc_k | apply row_k); intro _ _ _ _ _ _ | (first | apply fork | apply forkp) <;> intro _ | refine forke (fun _ => ?_) fun _ _ => ?_ | refine tail_k fun _ _ _ => ?_ | refine ext_k fun _ _ _ => ?_ | refine need_a ?_ | refine st_agg KR rfl ON fun _ _ _ _ => ?_ | refine wpd_q_a ?_
    | simp (maxDischargeDepth := 3) only [↓X, ↓Y, ↓Q, S1, ↓reduceIte, Nat.reduceEqDiff, Nat.reduceAdd, Int.reduceLT, Int.reduceLE, Int.reduceNeg, Int.reduceBEq, Int.reduceBNe, Int.reduceEq, Nat.reduceLeDiff, Nat.reduceMul, Nat.reduceLT, *]
    | simp (singlePass := true) (maxDischargeDepth := 99) only [*, S2, Nat.reduceLT])
      have : sortedB x.replicas = true := sortedB_iff.2 fun i hi => hp.out i hi (by omega)
      rw [this]
  · rintro g wk _ _ _ ⟨hi, hf, hp⟩
    simp (maxDischargeDepth := 3) only [U, ↓reduceIte, Nat.reduceEqDiff, *] at hf
    have hl : ¬ x.replicas.length + 1 < x.replicas.length := by omega
    (repeat' first
    | ((with_reducible refine at_row ?_); refine row1_a fun _ _ _ _ _ _ _ => ?_)
    | with_reducible first | (first | apply alloc_k | apply row_k); intro _ _ _ _ _ _ | (first | apply fork | apply forkp) <;> intro _ | refine forke (fun _ => ?_) fun _ _ => ?_ | refine tail_k fun _ _ _ => ?_ | refine ext_k fun _ _ _ => ?_ | refine need_a ?_ | refine st_agg KR rfl ON fun _ _ _ _ => ?_ | refine wpd_q_a ?_
    | simp (maxDischargeDepth := 3) only [↓X, ↓Y, ↓Q, S1, ↓reduceIte, Nat.reduceEqDiff, Nat.reduceAdd, Int.reduceLT, Int.reduceLE, Int.reduceNeg, Int.reduceBEq, Int.reduceBNe, Int.reduceEq, Nat.reduceLeDiff, Nat.reduceMul, Nat.reduceLT, *]
    | simp (singlePass := true) (maxDischargeDepth := 99) only [*, S2, Nat.reduceLT])
    have : sortedB x.replicas = true := sortedB_iff.2 fun i hi => hp.out i hi (by omega)
    rw [this]
end
end Go.Proofs.YtmcdgepfhpakiaaGreat
