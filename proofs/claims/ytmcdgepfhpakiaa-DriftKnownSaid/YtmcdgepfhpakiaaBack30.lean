
/- The library's Reverse, of differences; the layer drift: Back. -/
import Derived.Test.YtmcdgepfhpakiaaClone30
import Derived.Test.YtmcdgepfhpakiaaRow
namespace Go.Proofs.Ytmcdgepfhpakiaa
set_option linter.unusedSimpArgs false
set_option linter.unusedVariables false
open Go Go.RowKit
set_option maxRecDepth 100000
set_option linter.unusedSectionVars false
set_option maxHeartbeats 2000000
/-- The first k and the last k have changed places. -/
def RevI (l L : List DriftD) (k : Nat) : Prop := L.length = l.length ∧ ∀ p (h : p < L.length) (h1 : p < l.length) (h2 : l.length - 1 - p < l.length), L[p] = if p < k ∨ l.length ≤ p + k then l[l.length - 1 - p] else l[p]
theorem RevI.done {l L : List DriftD} (h : RevI l L (l.length / 2)) : L = l.reverse := by
  refine List.ext_getElem (by rw [List.length_reverse]; exact h.1) fun p h1 h2 => ?_
  have hp : p < l.length := by rw [← h.1]; exact h1
  rw [h.2 p h1 hp (by omega), List.getElem_reverse]
  split
  · rfl
  · have : p = l.length - 1 - p := by omega
    congr 1
theorem RevI.zero (l : List DriftD) : RevI l l 0 := ⟨rfl, fun p h h1 h2 => by rw [if_neg (by omega)]⟩
theorem RevI.next {l L : List DriftD} {k : Nat} (h : RevI l L k) (hk : k < l.length / 2) (h1 : k < L.length) (h2 : l.length - 1 - k < L.length) : RevI l ((L.set k L[l.length - 1 - k]).set (l.length - 1 - k) L[k]) (k + 1) := by
  have hL := h.1
  refine ⟨by simp [hL], fun p q q1 q2 => ?_⟩
  have e1 : L[k] = l[k] := by rw [h.2 k h1 (by omega) (by omega), if_neg (by omega)]
  have e2 : L[l.length - 1 - k] = l[l.length - 1 - k] := by rw [h.2 _ h2 (by omega) (by omega), if_neg (by omega)]
  rw [List.getElem_set]
  split
  · rename_i hp
    subst hp
    rw [e1, if_pos (by omega)]
    congr 1
    omega
  · rename_i hp
    rw [List.getElem_set]
    split
    · rename_i hp2
      subst hp2
      rw [e2, if_pos (by omega)]
    · rename_i hp2
      rw [h.2 p (by omega) q1 q2]
      by_cases c : p < k ∨ l.length ≤ p + k
      · rw [if_pos c, if_pos (by omega)]
      · rw [if_neg c, if_neg (by omega)]
section
variable {w : World} {B : Nat} {dv : Value} {l : List DriftD}
theorem slicesReverseD (hB : B ≤ w.heap.size) (ho : OwnD w B dv l) : CallsV Try.prog 27 #[dv] w fun _ w' => Below B w w' ∧ OwnD w' B dv l.reverse := by
  have hn : Now w := trivial
  have hx : Ext w w := Ext.refl w
  have hlen : l.length ≤ 140737488355328 := by simpa using ho.small
  replace hlen : Hid _ := hlen
  have S0 := ho.slN (f := driftC)
  have S0' := S0.k (Nat.le_refl _)
  have hw0 : IntKind.i64.wrap ((l.length : Int) - 1) = (l.length : Int) - 1 := by have := hlen.out; rw [wrap_i64_id] <;> omega
  have hbB : Below B w w := Below.refl _ _
  (refine callsV_of Try.func27 rfl KR KR ?_; rw [Try.results27])
  (repeat' first
    | ((with_reducible refine at_row ?_); refine row1_a fun _ _ _ _ _ _ _ => ?_)
    | with_reducible first | (first | apply alloc_k | apply row_k); intro _ _ _ _ _ _ | (first | apply fork | apply forkp) <;> intro _ | refine forke (fun _ => ?_) fun _ _ => ?_ | refine tail_k fun _ _ _ => ?_ | refine ext_k fun _ _ _ => ?_ | refine need_a ?_ | refine st_agg KR rfl ON fun _ _ _ _ => ?_ | refine wpd_q_a ?_
    | simp (maxDischargeDepth := 3) only [↓X, ↓Y, ↓Q, S1, ↓reduceIte, Nat.reduceEqDiff, Nat.reduceAdd, Int.reduceLT, Int.reduceLE, Int.reduceNeg, Int.reduceBEq, Int.reduceBNe, Int.reduceEq, Nat.reduceLeDiff, Nat.reduceMul, Nat.reduceLT, *]
    | simp (singlePass := true) (maxDischargeDepth := 99) only [*, S2, Nat.reduceLT])
  have I0 : Below B w w ∧ ∃ L, OwnD w B dv L ∧ RevI l L 0 := ⟨hbB, l, ho, RevI.zero l⟩
  replace I0 : Hid _ := I0
  refine loop_g (l.length / 2) (fun g0 k g w' => g 2 = .int .i64 (k : Int) ∧ g 3 = .int .i64 ((l.length : Int) - 1 - k) ∧ (g 0 = g0 0) ∧ Hid (Below B w w' ∧ ∃ L, OwnD w' B dv L ∧ RevI l L k)) KR ?_ ?_ ?_
  · (repeat' first
    | ((with_reducible refine at_row ?_); refine row1_a fun _ _ _ _ _ _ _ => ?_)
    | with_reducible first | (first | apply alloc_k | apply row_k); intro _ _ _ _ _ _ | (first | apply fork | apply forkp) <;> intro _ | refine forke (fun _ => ?_) fun _ _ => ?_ | refine tail_k fun _ _ _ => ?_ | refine ext_k fun _ _ _ => ?_ | refine need_a ?_ | refine st_agg KR rfl ON fun _ _ _ _ => ?_ | refine wpd_q_a ?_
    | simp (maxDischargeDepth := 3) only [↓X, ↓Y, ↓Q, S1, ↓reduceIte, Nat.reduceEqDiff, Nat.reduceAdd, Int.reduceLT, Int.reduceLE, Int.reduceNeg, Int.reduceBEq, Int.reduceBNe, Int.reduceEq, Nat.reduceLeDiff, Nat.reduceMul, Nat.reduceLT, *]
    | simp (singlePass := true) (maxDischargeDepth := 99) only [*, S2, Nat.reduceLT])
    exact ⟨by simp, I0.out.2⟩
  · rintro k m g wk hk hlt nk ⟨hi, hj, hf, hp⟩
    simp (maxDischargeDepth := 3) only [U, ↓reduceIte, Nat.reduceEqDiff, *] at hf
    obtain ⟨hbl, L, hown, hR⟩ := hp.out
    have hm : 0 < L.length := by have := hR.1; omega
    obtain ⟨gg, hgv⟩ : ∃ gg, dv.ownBlock = some gg := by
      rcases hown.1.2 with ⟨_, h0⟩ | ⟨g, cap, cur, e, _⟩
      · exfalso
        rw [List.length_map] at h0
        omega
      · exact ⟨g, by rw [e]; rfl⟩
    have hgb : blockOf dv = some gg := by rw [hown.block]; exact hgv
    have hkl : k < L.length := by have := hR.1; omega
    have hjl : l.length - 1 - k < L.length := by have := hR.1; omega
    have hjI : ((l.length : Int) - 1 - k) = ((l.length - 1 - k : Nat) : Int) := by omega
    rw [hjI] at hj
    have SL := (hown.slN (f := driftC)).k (Nat.le_refl _)
    have rk := Ext.refl wk
    have hlt' : (k : Int) < ((l.length - 1 - k : Nat) : Int) := by omega
    have hrd : ∀ i (h : i < L.length) w', Kp gg wk w' → rdv (some 5) w' (elemAt dv 5 i) = some (driftV L[i]) := fun i h w' hk9 => by
      have h1 := ((hown.slN (f := driftC)).vp (w' := w') (fun c hc _ => by obtain rfl := Option.some.inj (hgb.symm.trans hc); exact hk9)).rd i (by simpa using h)
      simpa [driftV] using h1
    have hr1 := hrd k hkl
    have hr2 := hrd _ hjl
    have hgl : gg < wk.heap.size := (hown.lt gg hgv).2
    clear ho S0 S0' I0 hp
    (repeat' first
    | ((with_reducible refine wpd_at 3 ?_); refine wpd_hold ?_)
    | ((with_reducible refine at_row ?_); refine row1_a fun _ _ _ _ _ _ _ => ?_)
    | with_reducible first | (first | apply alloc_k | apply row_k); intro _ _ _ _ _ _ | (first | apply fork | apply forkp) <;> intro _ | refine forke (fun _ => ?_) fun _ _ => ?_ | refine tail_k fun _ _ _ => ?_ | refine ext_k fun _ _ _ => ?_ | refine need_a ?_ | refine st_agg KR rfl ON fun _ _ _ _ => ?_ | refine wpd_q_a ?_
    | simp (maxDischargeDepth := 3) only [↓X, ↓Y, ↓Q, S1, ↓reduceIte, Nat.reduceEqDiff, Nat.reduceAdd, Int.reduceLT, Int.reduceLE, Int.reduceNeg, Int.reduceBEq, Int.reduceBNe, Int.reduceEq, Nat.reduceLeDiff, Nat.reduceMul, Nat.reduceLT, *, driftC]
    | simp (singlePass := true) (maxDischargeDepth := 99) only [*, S2, Nat.reduceLT, driftC])
    have hRB : ∀ b ∈ [gg], b < wk.heap.size := by simp only [List.mem_cons, List.not_mem_nil, or_false, forall_eq_or_imp, forall_eq]; exact FR
    unfold wpdH
    refine wpd_relL 14 [gg] [(13, gg)] rfl (fun iI v w9 => match iI with
      | 0 => v = dv
      | 1 => v = .int .i64 k
      | 2 => v = dv
      | 3 => v = .int .i64 (l.length - 1 - k : Nat)
      | 4 => v = dv
      | 5 => v = .int .i64 (l.length - 1 - k : Nat)
      | 6 => v = elemAt dv 5 (l.length - 1 - k)
      | 7 => v = driftV L[l.length - 1 - k]
      | 8 => v = dv
      | 9 => v = .int .i64 k
      | 10 => v = elemAt dv 5 k
      | 11 => v = driftV L[k]
      | 12 => v = elemAt dv 5 k
      | 13 => OwnD w9 B dv (L.set k L[l.length - 1 - k])
      | _ => False) KR KR KR hRB (by simp only [List.nodup_cons, List.mem_cons, List.not_mem_nil, or_false, not_or, List.nodup_nil, not_false_eq_true, and_true] <;> exact FR) ?_ ?_ ?_
    · intro iI v w1 w2 hR hx9
      match iI, hR with
      | 0, h => exact h
      | 1, h => exact h
      | 2, h => exact h
      | 3, h => exact h
      | 4, h => exact h
      | 5, h => exact h
      | 6, h => exact h
      | 7, h => exact h
      | 8, h => exact h
      | 9, h => exact h
      | 10, h => exact h
      | 11, h => exact h
      | 12, h => exact h
      | 13, h => exact Own.tbg h hx9 (fun b hb hX => by obtain rfl := Option.some.inj (hgv.symm.trans hb); exact hX.2 rfl)
    · intro iI oO hi ho gF w9 hx9 hdep hag hun
      have s9 := hx9.sb
      simp only [Sb, List.mem_cons, List.not_mem_nil, or_false, forall_eq_or_imp, forall_eq] at s9
      have n9 : Now w9 := trivial
      have r9 := Ext.refl w9
      have z9 := hx9.size
      rcases iI with _|_|_|_|_|_|_|_|_|_|_|_|_|_|iI
      have e := Option.some.inj ho
      subst e
      have a0 := hag.at 0 KR
      simp only [S5, ↓reduceIte, Nat.reduceEqDiff, initF, *] at a0
      have un13 : Kp gg wk w9 := ⟨hRB _ (by simp), hun 13 _ (by decide) rfl KR⟩
      clear hag hdep ho hun
      refine ⟨fun _ => ?_, fun b hb => by simp [bkL] at hb⟩
      refine relStep_off rfl ?_
      rotate_left
      have e := Option.some.inj ho
      subst e
      have a2 := hag.at 2 KR
      simp only [S5, ↓reduceIte, Nat.reduceEqDiff, initF, *] at a2
      have un13 : Kp gg wk w9 := ⟨hRB _ (by simp), hun 13 _ (by decide) rfl KR⟩
      clear hag hdep ho hun
      refine ⟨fun _ => ?_, fun b hb => by simp [bkL] at hb⟩
      refine relStep_off rfl ?_
      rotate_left
      have e := Option.some.inj ho
      subst e
      have a0 := hag.at 0 KR
      simp only [S5, ↓reduceIte, Nat.reduceEqDiff, initF, *] at a0
      clear hag hdep ho hun
      refine ⟨fun _ => ?_, fun b hb => by simp [bkL] at hb⟩
      refine relStep_off rfl ?_
      rotate_left
      have e := Option.some.inj ho
      subst e
      have a3 := hag.at 3 KR
      simp only [S5, ↓reduceIte, Nat.reduceEqDiff, initF, *] at a3
      clear hag hdep ho hun
      refine ⟨fun _ => ?_, fun b hb => by simp [bkL] at hb⟩
      refine relStep_off rfl ?_
      rotate_left
      have e := Option.some.inj ho
      subst e
      have a0 := hag.at 0 KR
      simp only [S5, ↓reduceIte, Nat.reduceEqDiff, initF, *] at a0
      have un13 : Kp gg wk w9 := ⟨hRB _ (by simp), hun 13 _ (by decide) rfl KR⟩
      clear hag hdep ho hun
      refine ⟨fun _ => ?_, fun b hb => by simp [bkL] at hb⟩
      refine relStep_off rfl ?_
      rotate_left
      have e := Option.some.inj ho
      subst e
      have a3 := hag.at 3 KR
      simp only [S5, ↓reduceIte, Nat.reduceEqDiff, initF, *] at a3
      have un13 : Kp gg wk w9 := ⟨hRB _ (by simp), hun 13 _ (by decide) rfl KR⟩
      clear hag hdep ho hun
      refine ⟨fun _ => ?_, fun b hb => by simp [bkL] at hb⟩
      refine relStep_off rfl ?_
      rotate_left
      have e := Option.some.inj ho
      subst e
      have d4 : (gF 18) = dv := hdep ⟨4, .data⟩ (by simp) rfl _ _ rfl rfl
      have d5 : (gF 19) = .int .i64 (l.length - 1 - k : Nat) := hdep ⟨5, .data⟩ (by simp) rfl _ _ rfl rfl
      have un13 : Kp gg wk w9 := ⟨hRB _ (by simp), hun 13 _ (by decide) rfl KR⟩
      clear hag hdep ho hun
      refine ⟨fun _ => ?_, fun b hb => by simp [bkL] at hb⟩
      refine relStep_off rfl ?_
      rotate_left
      have e := Option.some.inj ho
      subst e
      have d6 : (gF 20) = elemAt dv 5 (l.length - 1 - k) := hdep ⟨6, .data⟩ (by simp) rfl _ _ rfl rfl
      have un13 : Kp gg wk w9 := ⟨hRB _ (by simp), hun 13 _ (by decide) rfl KR⟩
      clear hag hdep ho hun
      refine ⟨fun _ => ?_, fun b hb => by simp [bkL] at hb⟩
      refine relStep_off rfl ?_
      rotate_left
      have e := Option.some.inj ho
      subst e
      have a0 := hag.at 0 KR
      simp only [S5, ↓reduceIte, Nat.reduceEqDiff, initF, *] at a0
      clear hag hdep ho hun
      refine ⟨fun _ => ?_, fun b hb => by simp [bkL] at hb⟩
      refine relStep_off rfl ?_
      rotate_left
      have e := Option.some.inj ho
      subst e
      have a2 := hag.at 2 KR
      simp only [S5, ↓reduceIte, Nat.reduceEqDiff, initF, *] at a2
      clear hag hdep ho hun
      refine ⟨fun _ => ?_, fun b hb => by simp [bkL] at hb⟩
      refine relStep_off rfl ?_
      rotate_left
      have e := Option.some.inj ho
      subst e
      have d8 : (gF 22) = dv := hdep ⟨8, .data⟩ (by simp) rfl _ _ rfl rfl
      have d9 : (gF 23) = .int .i64 k := hdep ⟨9, .data⟩ (by simp) rfl _ _ rfl rfl
      clear hag hdep ho hun
      refine ⟨fun _ => ?_, fun b hb => by simp [bkL] at hb⟩
      refine relStep_off rfl ?_
      rotate_left
      have e := Option.some.inj ho
      subst e
      have d10 : (gF 24) = elemAt dv 5 k := hdep ⟨10, .data⟩ (by simp) rfl _ _ rfl rfl
      have un13 : Kp gg wk w9 := ⟨hRB _ (by simp), hun 13 _ (by decide) rfl KR⟩
      clear hag hdep ho hun
      refine ⟨fun _ => ?_, fun b hb => by simp [bkL] at hb⟩
      refine relStep_off rfl ?_
      rotate_left
      have e := Option.some.inj ho
      subst e
      have d0 : (gF 14) = dv := hdep ⟨0, .data⟩ (by simp) rfl _ _ rfl rfl
      have d1 : (gF 15) = .int .i64 k := hdep ⟨1, .data⟩ (by simp) rfl _ _ rfl rfl
      have un13 : Kp gg wk w9 := ⟨hRB _ (by simp), hun 13 _ (by decide) rfl KR⟩
      clear hag hdep ho hun
      refine ⟨fun _ => ?_, fun b hb => by simp [bkL] at hb⟩
      refine relStep_off rfl ?_
      rotate_left
      have e := Option.some.inj ho
      subst e
      have d7 : (gF 21) = driftV L[l.length - 1 - k] := hdep ⟨7, .data⟩ (by simp) rfl _ _ rfl rfl
      have d12 : (gF 26) = elemAt dv 5 k := hdep ⟨12, .data⟩ (by simp) rfl _ _ rfl rfl
      clear hag hdep ho hun
      refine ⟨fun h => by simp [bkL] at h, fun b hb hU => ?_⟩
      obtain rfl : gg = b := by simpa [bkL] using hb
      refine relStep_off rfl ?_
      rotate_left
      · omega
      all_goals (repeat' first
    | ((with_reducible refine at_row ?_); refine row1_a fun _ _ _ _ _ _ _ => ?_)
    | with_reducible first | (first | apply alloc_k | apply row_k); intro _ _ _ _ _ _ | (first | apply fork | apply forkp) <;> intro _ | refine forke (fun _ => ?_) fun _ _ => ?_ | refine tail_k fun _ _ _ => ?_ | refine ext_k fun _ _ _ => ?_ | refine need_a ?_ | refine st_agg KR rfl ON fun _ _ _ _ => ?_ | refine wpd_q_a ?_
    | simp (maxDischargeDepth := 3) only [↓X, ↓Y, ↓Q, S1, ↓reduceIte, Nat.reduceEqDiff, Nat.reduceAdd, Int.reduceLT, Int.reduceLE, Int.reduceNeg, Int.reduceBEq, Int.reduceBNe, Int.reduceEq, Nat.reduceLeDiff, Nat.reduceMul, Nat.reduceLT, *, driftC]
    | simp (singlePass := true) (maxDischargeDepth := 99) only [*, S2, Nat.reduceLT, driftC])
      all_goals first
        | (refine own_set (i := k) (vs := driftC L[l.length - 1 - k]) KR (by decide) (hown.keep fun b hb => by obtain rfl := Option.some.inj (hgv.symm.trans hb); exact hU) (by simpa using hkl) rfl (driftC_one _) fun b' w10 n10 e10 hb10 hl10 hown10 s10 c10 => ?_; obtain rfl := Option.some.inj (hgb.symm.trans e10); exact ⟨c10, (show Own w10 B 42 5 dv ((L.set k L[l.length - 1 - k]).map driftC) from by rw [List.map_set]; exact hown10)⟩)
    · intro g9 w9 hx9 hR hS9 hag
      have s9 := hx9.sb
      simp only [Sb, List.mem_cons, List.not_mem_nil, or_false, forall_eq_or_imp, forall_eq] at s9
      have n9 : Now w9 := trivial
      have r9 := Ext.refl w9
      have z9 := hx9.size
      have d2 : (g9 16) = dv := hR 2 _ _ (by decide) rfl rfl
      have d3 : (g9 17) = .int .i64 (l.length - 1 - k : Nat) := hR 3 _ _ (by decide) rfl rfl
      have d11 : (g9 25) = driftV L[k] := hR 11 _ _ (by decide) rfl rfl
      obtain ⟨vs13, d13⟩ := hS9 13 _ (by decide) rfl
      replace d13 : OwnD w9 B dv (L.set k L[l.length - 1 - k]) := d13
      have a0 := hag.at 0 KR
      have a2 := hag.at 2 KR
      have a3 := hag.at 3 KR
      simp only [S5, ↓reduceIte, Nat.reduceEqDiff, initF, *] at a0 a2 a3
      clear hag hR hS9
      simp only [List.drop_succ_cons, List.drop_zero]
      have hw1 : IntKind.i64.wrap ((k : Int) + 1) = ((k + 1 : Nat) : Int) := by have := hlen.out; rw [wrap_i64_id] <;> omega
      have hw2 : IntKind.i64.wrap (((l.length - 1 - k : Nat) : Int) - 1) = ((l.length : Int) - 1 - ((k + 1 : Nat) : Int)) := by have := hlen.out; rw [wrap_i64_id] <;> omega
      (repeat' first
    | ((with_reducible refine at_row ?_); refine row1_a fun _ _ _ _ _ _ _ => ?_)
    | with_reducible first | (first | apply alloc_k | apply row_k); intro _ _ _ _ _ _ | (first | apply fork | apply forkp) <;> intro _ | refine forke (fun _ => ?_) fun _ _ => ?_ | refine tail_k fun _ _ _ => ?_ | refine ext_k fun _ _ _ => ?_ | refine need_a ?_ | refine st_agg KR rfl ON fun _ _ _ _ => ?_ | refine wpd_q_a ?_
    | simp (maxDischargeDepth := 3) only [↓X, ↓Y, ↓Q, S1, ↓reduceIte, Nat.reduceEqDiff, Nat.reduceAdd, Int.reduceLT, Int.reduceLE, Int.reduceNeg, Int.reduceBEq, Int.reduceBNe, Int.reduceEq, Nat.reduceLeDiff, Nat.reduceMul, Nat.reduceLT, *, driftC]
    | simp (singlePass := true) (maxDischargeDepth := 99) only [*, S2, Nat.reduceLT, driftC])
      refine own_set (i := l.length - 1 - k) (vs := driftC L[k]) KR (by decide) d13 (by simpa using hjl) rfl (driftC_one _) fun b' w8 n8 e8 hb8 hl8 hown8 s8 c8 => ?_
      obtain rfl := Option.some.inj (hgb.symm.trans e8)
      have F8 : Hid (Below B w w8 ∧ ∃ L, OwnD w8 B dv L ∧ RevI l L (k + 1)) := by
        refine ⟨?_, _, ?_, hR.next hlt hkl hjl⟩
        · have hB9 : B ≤ wk.heap.size := Nat.le_trans hB hbl.size
          have h1 : Bl B wk wk := Bl.refl hB9
          have h2 : Bl B wk w8 := FR
          exact hbl.trans h2.2
        · show Own w8 B 42 5 dv (List.map driftC _)
          rw [List.map_set]
          exact hown8
      clear hown8 d13
      (repeat' first
    | ((with_reducible refine at_row ?_); refine row1_a fun _ _ _ _ _ _ _ => ?_)
    | with_reducible first | (first | apply alloc_k | apply row_k); intro _ _ _ _ _ _ | (first | apply fork | apply forkp) <;> intro _ | refine forke (fun _ => ?_) fun _ _ => ?_ | refine tail_k fun _ _ _ => ?_ | refine ext_k fun _ _ _ => ?_ | refine need_a ?_ | refine st_agg KR rfl ON fun _ _ _ _ => ?_ | refine wpd_q_a ?_
    | simp (maxDischargeDepth := 3) only [↓X, ↓Y, ↓Q, S1, ↓reduceIte, Nat.reduceEqDiff, Nat.reduceAdd, Int.reduceLT, Int.reduceLE, Int.reduceNeg, Int.reduceBEq, Int.reduceBNe, Int.reduceEq, Nat.reduceLeDiff, Nat.reduceMul, Nat.reduceLT, *]
    | simp (singlePass := true) (maxDischargeDepth := 99) only [*, S2, Nat.reduceLT])
      refine next_g hk hlt ?_
      (repeat' first
    | ((with_reducible refine at_row ?_); refine row1_a fun _ _ _ _ _ _ _ => ?_)
    | with_reducible first | (first | apply alloc_k | apply row_k); intro _ _ _ _ _ _ | (first | apply fork | apply forkp) <;> intro _ | refine forke (fun _ => ?_) fun _ _ => ?_ | refine tail_k fun _ _ _ => ?_ | refine ext_k fun _ _ _ => ?_ | refine need_a ?_ | refine st_agg KR rfl ON fun _ _ _ _ => ?_ | refine wpd_q_a ?_
    | simp (maxDischargeDepth := 3) only [↓X, ↓Y, ↓Q, S1, ↓reduceIte, Nat.reduceEqDiff, Nat.reduceAdd, Int.reduceLT, Int.reduceLE, Int.reduceNeg, Int.reduceBEq, Int.reduceBNe, Int.reduceEq, Nat.reduceLeDiff, Nat.reduceMul, Nat.reduceLT, *]
    | simp (singlePass := true) (maxDischargeDepth := 99) only [*, S2, Nat.reduceLT])
      all_goals exact F8.out
  · rintro g wk nk ⟨hi, hj, hf, hp⟩
    simp (maxDischargeDepth := 3) only [U, ↓reduceIte, Nat.reduceEqDiff, *] at hf
    have hge : ¬ ((l.length / 2 : Nat) : Int) < (l.length : Int) - 1 - (l.length / 2 : Nat) := by omega
    (repeat' first
    | ((with_reducible refine at_row ?_); refine row1_a fun _ _ _ _ _ _ _ => ?_)
    | with_reducible first | (first | apply alloc_k | apply row_k); intro _ _ _ _ _ _ | (first | apply fork | apply forkp) <;> intro _ | refine forke (fun _ => ?_) fun _ _ => ?_ | refine tail_k fun _ _ _ => ?_ | refine ext_k fun _ _ _ => ?_ | refine need_a ?_ | refine st_agg KR rfl ON fun _ _ _ _ => ?_ | refine wpd_q_a ?_
    | simp (maxDischargeDepth := 3) only [↓X, ↓Y, ↓Q, S1, ↓reduceIte, Nat.reduceEqDiff, Nat.reduceAdd, Int.reduceLT, Int.reduceLE, Int.reduceNeg, Int.reduceBEq, Int.reduceBNe, Int.reduceEq, Nat.reduceLeDiff, Nat.reduceMul, Nat.reduceLT, *]
    | simp (singlePass := true) (maxDischargeDepth := 99) only [*, S2, Nat.reduceLT])
    obtain ⟨hbl, L, hown, hR⟩ := hp.out
    rw [← hR.done]
    exact ⟨hbl, hown⟩
end
theorem nilX_ptr {v : Value} {w : World} {f : Value → World → Prop} (h : isPtr v) : nilX v w f = f v w := by
  unfold isPtr at h
  split at h
  · rfl
  · exact h.elim
def backD (d : DriftD) : DriftD := if d.kind = 3 ∨ d.kind = 4 then ⟨d.kind, d.host, d.service, d.is, d.was⟩ else if d.kind = 1 then ⟨2, d.host, d.service, d.was, d.is⟩ else if d.kind = 2 then ⟨1, d.host, d.service, d.was, d.is⟩ else d
def backL (l : List DriftD) : List DriftD := l.reverse.map backD
def backI (R : List DriftD) (k : Nat) : List DriftD := (R.take k).map backD ++ R.drop k
theorem backI_len (R : List DriftD) (k : Nat) : (backI R k).length = R.length := by
  unfold backI
  rw [List.length_append, List.length_map, List.length_take, List.length_drop]
  omega
theorem backI_at {R : List DriftD} {k : Nat} (h : k < R.length) (h2 : k < (backI R k).length) : (backI R k)[k] = R[k] := by
  have e : (backI R k)[k]? = R[k]? := by
    unfold backI
    rw [List.getElem?_append_right (by rw [List.length_map, List.length_take]; omega), List.length_map, List.length_take, List.getElem?_drop]
    congr 1
    omega
  rw [List.getElem?_eq_getElem h2, List.getElem?_eq_getElem h] at e
  exact Option.some.inj e
theorem backI_set {R : List DriftD} {k : Nat} (h : k < R.length) : (backI R k).set k (backD R[k]) = backI R (k + 1) := by
  unfold backI
  have h1 : ((R.take k).map backD).length = k := by rw [List.length_map, List.length_take]; omega
  rw [List.set_append_right _ _ (by omega), h1, Nat.sub_self, List.take_succ_eq_append_getElem h, List.drop_eq_getElem_cons h, List.set_cons_zero, List.map_append, List.append_assoc]
  rfl
section
variable {w : World} {B : Nat} {lv : Value} {l : List DriftD}
theorem own_upd {w8 : World} {B : Nat} {dv : Value} {L : List DriftD} {k : Nat} {c : List Value} {D : DriftD} (h : Own w8 B 42 5 dv ((L.map driftC).set k c)) (e : c = driftC D) : OwnD w8 B dv (L.set k D) := by
  subst e
  rw [← List.map_set] at h
  exact h
theorem driftBack (hB : B ≤ w.heap.size) (hl0 : Sl w B (some 5) 5 lv (l.map driftV)) (hlen : l.length ≤ 1000000) : CallsV Try.prog 14 #[lv] w fun r w' => Ext w w' ∧ OwnD w' w.heap.size r (backL l) := by
  have hn : Now w := trivial
  have hx : Ext w w := Ext.refl w
  have hlen : Hid _ := hlen
  have hl' := hl0.k hB
  have hLL := fun w' (h : Bl B w w') => hl0.bl h
  (refine callsV_of Try.func14 rfl KR KR ?_; rw [Try.results14])
  (repeat' first
    | ((with_reducible refine at_row ?_); refine row1_a fun _ _ _ _ _ _ _ => ?_)
    | with_reducible first | (first | apply alloc_k | apply row_k); intro _ _ _ _ _ _ | (first | apply fork | apply forkp) <;> intro _ | refine forke (fun _ => ?_) fun _ _ => ?_ | refine tail_k fun _ _ _ => ?_ | refine ext_k fun _ _ _ => ?_ | refine need_a ?_ | refine st_agg KR rfl ON fun _ _ _ _ => ?_ | refine wpd_q_a ?_
    | simp (maxDischargeDepth := 3) only [↓X, ↓Y, ↓Q, S1, ↓reduceIte, Nat.reduceEqDiff, Nat.reduceAdd, Int.reduceLT, Int.reduceLE, Int.reduceNeg, Int.reduceBEq, Int.reduceBNe, Int.reduceEq, Nat.reduceLeDiff, Nat.reduceMul, Nat.reduceLT, *]
    | simp (singlePass := true) (maxDischargeDepth := 99) only [*, S2, Nat.reduceLT])
  refine call_k (slicesCloneD (B := B) FR (hLL _ FR) hlen.out) ?_
  rintro dv w1 n1 s1 hown1
  have one1 := hown1.one
  have hz1 : w.heap.size ≤ w1.heap.size := FR
  (repeat' first
    | ((with_reducible refine at_row ?_); refine row1_a fun _ _ _ _ _ _ _ => ?_)
    | with_reducible first | (first | apply alloc_k | apply row_k); intro _ _ _ _ _ _ | (first | apply fork | apply forkp) <;> intro _ | refine forke (fun _ => ?_) fun _ _ => ?_ | refine tail_k fun _ _ _ => ?_ | refine ext_k fun _ _ _ => ?_ | refine need_a ?_ | refine st_agg KR rfl ON fun _ _ _ _ => ?_ | refine wpd_q_a ?_
    | simp (maxDischargeDepth := 3) only [↓X, ↓Y, ↓Q, S1, ↓reduceIte, Nat.reduceEqDiff, Nat.reduceAdd, Int.reduceLT, Int.reduceLE, Int.reduceNeg, Int.reduceBEq, Int.reduceBNe, Int.reduceEq, Nat.reduceLeDiff, Nat.reduceMul, Nat.reduceLT, *]
    | simp (singlePass := true) (maxDischargeDepth := 99) only [*, S2, Nat.reduceLT])
  have hx1 : Ext w w1 := FR
  refine CallsV.mono (slicesReverseD hz1 hown1) ?_
  rintro rv w2 ⟨hbl2, hown2⟩
  have hx2 : Ext w w2 := hx1.trans' hbl2
  have n2 : Now w2 := trivial
  have r2 := Ext.refl w2
  have hlenR : Hid (l.reverse.length ≤ 1000000) := by show _ ≤ _; rw [List.length_reverse]; exact hlen.out
  have SR := (hown2.slN (f := driftC)).k (Nat.le_refl _)
  unfold backL
  generalize l.reverse = R at *
  clear hbl2 hown1 n1 s1 hl' hLL hlen
  (repeat' first
    | ((with_reducible refine at_row ?_); refine row1_a fun _ _ _ _ _ _ _ => ?_)
    | with_reducible first | (first | apply alloc_k | apply row_k); intro _ _ _ _ _ _ | (first | apply fork | apply forkp) <;> intro _ | refine forke (fun _ => ?_) fun _ _ => ?_ | refine tail_k fun _ _ _ => ?_ | refine ext_k fun _ _ _ => ?_ | refine need_a ?_ | refine st_agg KR rfl ON fun _ _ _ _ => ?_ | refine wpd_q_a ?_
    | simp (maxDischargeDepth := 3) only [↓X, ↓Y, ↓Q, S1, ↓reduceIte, Nat.reduceEqDiff, Nat.reduceAdd, Int.reduceLT, Int.reduceLE, Int.reduceNeg, Int.reduceBEq, Int.reduceBNe, Int.reduceEq, Nat.reduceLeDiff, Nat.reduceMul, Nat.reduceLT, *]
    | simp (singlePass := true) (maxDischargeDepth := 99) only [*, S2, Nat.reduceLT])
  refine loop_g R.length (fun g0 k g w' => g 12 = .int .i64 (k : Int) ∧ (g 3 = g0 3 ∧ g 11 = g0 11) ∧ Hid (Ext w w' ∧ OwnD w' w.heap.size dv (backI R k))) KR ?_ ?_ ?_
  · (repeat' first
    | ((with_reducible refine at_row ?_); refine row1_a fun _ _ _ _ _ _ _ => ?_)
    | with_reducible first | (first | apply alloc_k | apply row_k); intro _ _ _ _ _ _ | (first | apply fork | apply forkp) <;> intro _ | refine forke (fun _ => ?_) fun _ _ => ?_ | refine tail_k fun _ _ _ => ?_ | refine ext_k fun _ _ _ => ?_ | refine need_a ?_ | refine st_agg KR rfl ON fun _ _ _ _ => ?_ | refine wpd_q_a ?_
    | simp (maxDischargeDepth := 3) only [↓X, ↓Y, ↓Q, S1, ↓reduceIte, Nat.reduceEqDiff, Nat.reduceAdd, Int.reduceLT, Int.reduceLE, Int.reduceNeg, Int.reduceBEq, Int.reduceBNe, Int.reduceEq, Nat.reduceLeDiff, Nat.reduceMul, Nat.reduceLT, *]
    | simp (singlePass := true) (maxDischargeDepth := 99) only [*, S2, Nat.reduceLT])
    all_goals first | exact (show OwnD w2 w.heap.size dv R from hown2) | (show OwnD w2 w.heap.size dv (backI R 0); simpa [backI] using hown2)
  · rintro k m g wk hk hlt nk ⟨hi, hf, hp⟩
    simp (maxDischargeDepth := 3) only [U, ↓reduceIte, Nat.reduceEqDiff, *] at hf
    obtain ⟨hxk, hown⟩ := hp.out
    have hkL : k < (backI R k).length := by rw [backI_len]; exact hlt
    have eL := backI_at hlt hkL
    have hset := backI_set hlt
    have hlL := backI_len R k
    replace hset : Hid _ := hset
    have SL := (hown.slN (f := driftC)).k (Nat.le_refl _)
    generalize backI R k = L at *
    generalize R[k] = d at *
    subst eL
    have hw1 : IntKind.i64.wrap ((k : Int) + 1) = ((k + 1 : Nat) : Int) := by have := hlenR.out; rw [wrap_i64_id] <;> omega
    have hlt' : (k : Int) < (R.length : Int) := by omega
    have rk := Ext.refl wk
    have bk : Bl wk.heap.size wk wk := Bl.refl (Nat.le_refl _)
    have hptr : isPtr (elemAt dv 5 k) := (hown.slN (f := driftC)).ptr (by simpa using hkL)
    obtain ⟨gg, hgv⟩ : ∃ gg, dv.ownBlock = some gg := by
      rcases hown.1.2 with ⟨_, h0⟩ | ⟨g, cap, cur, e, _⟩
      · exfalso
        rw [List.length_map] at h0
        omega
      · exact ⟨g, by rw [e]; rfl⟩
    have hgb : blockOf dv = some gg := by rw [hown.block]; exact hgv
    have hgl : gg < wk.heap.size := (hown.lt gg hgv).2
    have kg : Kp gg wk wk := ⟨hgl, rfl⟩
    have hfd : ∀ w', Kp gg wk w' → ∀ off, off < 5 → rdv none w' (addF (elemAt dv 5 k) off) = (driftC L[k])[off]? := fun w' hk9 off ho => by
      have h1 := ((hown.slN (f := driftC)).vp (w' := w') (fun c hc _ => by obtain rfl := Option.some.inj (hgb.symm.trans hc); exact hk9)).fld (i := k) (by simpa using hkL) ho
      simpa [cellsL] using h1
    have hf0 : ∀ w', Kp gg wk w' → rdv none w' (addF (elemAt dv 5 k) 0) = some (.int .u8 L[k].kind) := fun w' h => hfd w' h 0 (by decide)
    have hf3 : ∀ w', Kp gg wk w' → rdv none w' (addF (elemAt dv 5 k) 3) = some (intV L[k].was) := fun w' h => hfd w' h 3 (by decide)
    have hf4 : ∀ w', Kp gg wk w' → rdv none w' (addF (elemAt dv 5 k) 4) = some (intV L[k].is) := fun w' h => hfd w' h 4 (by decide)
    have hnil : ∀ w' (f : Value → World → Prop), nilX (elemAt dv 5 k) w' f = f (elemAt dv 5 k) w' := fun w' f => nilX_ptr hptr
    clear SR hown2 hp hfd
    have hwg : w.heap.size ≤ gg := (hown.lt gg hgv).1
    (repeat' first
    | ((with_reducible refine wpd_at 10 ?_); refine wpd_hold ?_)
    | ((with_reducible refine at_row ?_); refine row1_a fun _ _ _ _ _ _ _ => ?_)
    | with_reducible first | (first | apply alloc_k | apply row_k); intro _ _ _ _ _ _ | (first | apply fork | apply forkp) <;> intro _ | refine forke (fun _ => ?_) fun _ _ => ?_ | refine tail_k fun _ _ _ => ?_ | refine ext_k fun _ _ _ => ?_ | refine need_a ?_ | refine st_agg KR rfl ON fun _ _ _ _ => ?_ | refine wpd_q_a ?_
    | simp (maxDischargeDepth := 3) only [↓X, ↓Y, ↓Q, S1, ↓reduceIte, Nat.reduceEqDiff, Nat.reduceAdd, Int.reduceLT, Int.reduceLE, Int.reduceNeg, Int.reduceBEq, Int.reduceBNe, Int.reduceEq, Nat.reduceLeDiff, Nat.reduceMul, Nat.reduceLT, *, driftC]
    | simp (singlePass := true) (maxDischargeDepth := 99) only [*, S2, Nat.reduceLT, driftC])
    · rename_i hk0
      have hk34 : L[k].kind = 3 ∨ L[k].kind = 4 := .inl hk0
      clear hk0
      have hRB : ∀ b ∈ [gg], b < wk.heap.size := by simp only [List.mem_cons, List.not_mem_nil, or_false, forall_eq_or_imp, forall_eq]; exact FR
      unfold wpdH
      refine wpd_relL 13 [gg] [(12, gg)] rfl (fun iI v w9 => match iI with
        | 0 => v = elemAt dv 5 k
        | 1 => v = elemAt dv 5 k
        | 2 => v = elemAt dv 5 k
        | 3 => v = elemAt dv 5 k
        | 4 => v = addF (elemAt dv 5 k) 4
        | 5 => v = intV L[k].is
        | 6 => v = elemAt dv 5 k
        | 7 => v = elemAt dv 5 k
        | 8 => v = addF (elemAt dv 5 k) 3
        | 9 => v = intV L[k].was
        | 10 => v = elemAt dv 5 k
        | 11 => v = addF (elemAt dv 5 k) 3
        | 12 => OwnD w9 w.heap.size dv (L.set k ⟨L[k].kind, L[k].host, L[k].service, L[k].is, L[k].is⟩)
        | _ => False) KR KR KR hRB (by simp only [List.nodup_cons, List.mem_cons, List.not_mem_nil, or_false, not_or, List.nodup_nil, not_false_eq_true, and_true] <;> exact FR) ?_ ?_ ?_
      · intro iI v w1 w2 hR hx9
        match iI, hR with
        | 0, h => exact h
        | 1, h => exact h
        | 2, h => exact h
        | 3, h => exact h
        | 4, h => exact h
        | 5, h => exact h
        | 6, h => exact h
        | 7, h => exact h
        | 8, h => exact h
        | 9, h => exact h
        | 10, h => exact h
        | 11, h => exact h
        | 12, h => exact Own.tbg h hx9 (fun b hb hX => by obtain rfl := Option.some.inj (hgv.symm.trans hb); exact hX.2 rfl)
      · intro iI oO hi ho gF w9 hx9 hdep hag hun
        have s9 := hx9.sb
        simp only [Sb, List.mem_cons, List.not_mem_nil, or_false, forall_eq_or_imp, forall_eq] at s9
        have n9 : Now w9 := trivial
        have r9 := Ext.refl w9
        have z9 := hx9.size
        rcases iI with _|_|_|_|_|_|_|_|_|_|_|_|_|iI
        have e := Option.some.inj ho
        subst e
        have a5 := hag.at 5 KR
        simp only [S5, ↓reduceIte, Nat.reduceEqDiff, initF, *] at a5
        have un12 : Kp gg wk w9 := ⟨hRB _ (by simp), hun 12 _ (by decide) rfl KR⟩
        clear hag hdep ho hun
        refine ⟨fun _ => ?_, fun b hb => by simp [bkL] at hb⟩
        refine relStep_off rfl ?_
        rotate_left
        have e := Option.some.inj ho
        subst e
        have a5 := hag.at 5 KR
        simp only [S5, ↓reduceIte, Nat.reduceEqDiff, initF, *] at a5
        clear hag hdep ho hun
        refine ⟨fun _ => ?_, fun b hb => by simp [bkL] at hb⟩
        refine relStep_off rfl ?_
        rotate_left
        have e := Option.some.inj ho
        subst e
        have a5 := hag.at 5 KR
        simp only [S5, ↓reduceIte, Nat.reduceEqDiff, initF, *] at a5
        have un12 : Kp gg wk w9 := ⟨hRB _ (by simp), hun 12 _ (by decide) rfl KR⟩
        clear hag hdep ho hun
        refine ⟨fun _ => ?_, fun b hb => by simp [bkL] at hb⟩
        refine relStep_off rfl ?_
        rotate_left
        have e := Option.some.inj ho
        subst e
        have d2 : (gF 27) = elemAt dv 5 k := hdep ⟨2, .data⟩ (by simp) rfl _ _ rfl rfl
        have un12 : Kp gg wk w9 := ⟨hRB _ (by simp), hun 12 _ (by decide) rfl KR⟩
        clear hag hdep ho hun
        refine ⟨fun _ => ?_, fun b hb => by simp [bkL] at hb⟩
        refine relStep_off rfl ?_
        rotate_left
        have e := Option.some.inj ho
        subst e
        have d3 : (gF 28) = elemAt dv 5 k := hdep ⟨3, .data⟩ (by simp) rfl _ _ rfl rfl
        have un12 : Kp gg wk w9 := ⟨hRB _ (by simp), hun 12 _ (by decide) rfl KR⟩
        clear hag hdep ho hun
        refine ⟨fun _ => ?_, fun b hb => by simp [bkL] at hb⟩
        refine relStep_off rfl ?_
        rotate_left
        have e := Option.some.inj ho
        subst e
        have d4 : (gF 29) = addF (elemAt dv 5 k) 4 := hdep ⟨4, .data⟩ (by simp) rfl _ _ rfl rfl
        have un12 : Kp gg wk w9 := ⟨hRB _ (by simp), hun 12 _ (by decide) rfl KR⟩
        clear hag hdep ho hun
        refine ⟨fun _ => ?_, fun b hb => by simp [bkL] at hb⟩
        refine relStep_off rfl ?_
        rotate_left
        have e := Option.some.inj ho
        subst e
        have a5 := hag.at 5 KR
        simp only [S5, ↓reduceIte, Nat.reduceEqDiff, initF, *] at a5
        clear hag hdep ho hun
        refine ⟨fun _ => ?_, fun b hb => by simp [bkL] at hb⟩
        refine relStep_off rfl ?_
        rotate_left
        have e := Option.some.inj ho
        subst e
        have d6 : (gF 31) = elemAt dv 5 k := hdep ⟨6, .data⟩ (by simp) rfl _ _ rfl rfl
        clear hag hdep ho hun
        refine ⟨fun _ => ?_, fun b hb => by simp [bkL] at hb⟩
        refine relStep_off rfl ?_
        rotate_left
        have e := Option.some.inj ho
        subst e
        have d7 : (gF 32) = elemAt dv 5 k := hdep ⟨7, .data⟩ (by simp) rfl _ _ rfl rfl
        clear hag hdep ho hun
        refine ⟨fun _ => ?_, fun b hb => by simp [bkL] at hb⟩
        refine relStep_off rfl ?_
        rotate_left
        have e := Option.some.inj ho
        subst e
        have d8 : (gF 33) = addF (elemAt dv 5 k) 3 := hdep ⟨8, .data⟩ (by simp) rfl _ _ rfl rfl
        have un12 : Kp gg wk w9 := ⟨hRB _ (by simp), hun 12 _ (by decide) rfl KR⟩
        clear hag hdep ho hun
        refine ⟨fun _ => ?_, fun b hb => by simp [bkL] at hb⟩
        refine relStep_off rfl ?_
        rotate_left
        have e := Option.some.inj ho
        subst e
        have d0 : (gF 25) = elemAt dv 5 k := hdep ⟨0, .data⟩ (by simp) rfl _ _ rfl rfl
        clear hag hdep ho hun
        refine ⟨fun _ => ?_, fun b hb => by simp [bkL] at hb⟩
        refine relStep_off rfl ?_
        rotate_left
        have e := Option.some.inj ho
        subst e
        have d10 : (gF 35) = elemAt dv 5 k := hdep ⟨10, .data⟩ (by simp) rfl _ _ rfl rfl
        have un12 : Kp gg wk w9 := ⟨hRB _ (by simp), hun 12 _ (by decide) rfl KR⟩
        clear hag hdep ho hun
        refine ⟨fun _ => ?_, fun b hb => by simp [bkL] at hb⟩
        refine relStep_off rfl ?_
        rotate_left
        have e := Option.some.inj ho
        subst e
        have d5 : (gF 30) = intV L[k].is := hdep ⟨5, .data⟩ (by simp) rfl _ _ rfl rfl
        have d11 : (gF 36) = addF (elemAt dv 5 k) 3 := hdep ⟨11, .data⟩ (by simp) rfl _ _ rfl rfl
        clear hag hdep ho hun
        refine ⟨fun h => by simp [bkL] at h, fun b hb hU => ?_⟩
        obtain rfl : gg = b := by simpa [bkL] using hb
        refine relStep_off rfl ?_
        rotate_left
        · omega
        all_goals (repeat' first
    | ((with_reducible refine at_row ?_); refine row1_a fun _ _ _ _ _ _ _ => ?_)
    | with_reducible first | (first | apply alloc_k | apply row_k); intro _ _ _ _ _ _ | (first | apply fork | apply forkp) <;> intro _ | refine forke (fun _ => ?_) fun _ _ => ?_ | refine tail_k fun _ _ _ => ?_ | refine ext_k fun _ _ _ => ?_ | refine need_a ?_ | refine st_agg KR rfl ON fun _ _ _ _ => ?_ | refine wpd_q_a ?_
    | simp (maxDischargeDepth := 3) only [↓X, ↓Y, ↓Q, S1, ↓reduceIte, Nat.reduceEqDiff, Nat.reduceAdd, Int.reduceLT, Int.reduceLE, Int.reduceNeg, Int.reduceBEq, Int.reduceBNe, Int.reduceEq, Nat.reduceLeDiff, Nat.reduceMul, Nat.reduceLT, *, driftC, hnil]
    | simp (singlePass := true) (maxDischargeDepth := 99) only [*, S2, Nat.reduceLT, driftC, hnil])
        all_goals first
          | (refine own_set1 (i := k) (off := 3) KR (hown.keep fun b hb => by obtain rfl := Option.some.inj (hgv.symm.trans hb); exact hU) (by simpa using hkL) (by decide) rfl fun b' w10 n10 e10 hb10 hl10 hown10 s10 c10 => ?_; obtain rfl := Option.some.inj (hgb.symm.trans e10); exact ⟨c10, own_upd hown10 (by simp [driftC, intV])⟩)
      · intro g9 w9 hx9 hR hS9 hag
        have s9 := hx9.sb
        simp only [Sb, List.mem_cons, List.not_mem_nil, or_false, forall_eq_or_imp, forall_eq] at s9
        have n9 : Now w9 := trivial
        have r9 := Ext.refl w9
        have z9 := hx9.size
        have d1 : (g9 26) = elemAt dv 5 k := hR 1 _ _ (by decide) rfl rfl
        have d9 : (g9 34) = intV L[k].was := hR 9 _ _ (by decide) rfl rfl
        obtain ⟨vs12, d12⟩ := hS9 12 _ (by decide) rfl
        replace d12 : OwnD w9 w.heap.size dv (L.set k ⟨L[k].kind, L[k].host, L[k].service, L[k].is, L[k].is⟩) := d12
        have a3 := hag.at 3 KR
        have a11 := hag.at 11 KR
        have a12 := hag.at 12 KR
        simp only [S5, ↓reduceIte, Nat.reduceEqDiff, initF, *] at a3 a11 a12
        clear hag hR hS9
        simp only [List.drop_succ_cons, List.drop_zero]
        (repeat' first
    | ((with_reducible refine at_row ?_); refine row1_a fun _ _ _ _ _ _ _ => ?_)
    | with_reducible first | (first | apply alloc_k | apply row_k); intro _ _ _ _ _ _ | (first | apply fork | apply forkp) <;> intro _ | refine forke (fun _ => ?_) fun _ _ => ?_ | refine tail_k fun _ _ _ => ?_ | refine ext_k fun _ _ _ => ?_ | refine need_a ?_ | refine st_agg KR rfl ON fun _ _ _ _ => ?_ | refine wpd_q_a ?_
    | simp (maxDischargeDepth := 3) only [↓X, ↓Y, ↓Q, S1, ↓reduceIte, Nat.reduceEqDiff, Nat.reduceAdd, Int.reduceLT, Int.reduceLE, Int.reduceNeg, Int.reduceBEq, Int.reduceBNe, Int.reduceEq, Nat.reduceLeDiff, Nat.reduceMul, Nat.reduceLT, *, driftC, hnil]
    | simp (singlePass := true) (maxDischargeDepth := 99) only [*, S2, Nat.reduceLT, driftC, hnil])
        refine own_set1 (i := k) (off := 4) KR d12 (by simpa using hkL) (by decide) rfl fun b' w8 n8 e8 hb8 hl8 hown8 s8 c8 => ?_
        obtain rfl := Option.some.inj (hgb.symm.trans e8)
        have F8 : Hid (Ext w w8 ∧ OwnD w8 w.heap.size dv (backI R (k + 1))) := by
          refine ⟨FR, ?_⟩
          rw [← hset.out]
          have h9 := own_upd (D := backD L[k]) hown8 (by simp [backD, hk34, driftC, intV])
          simpa using h9
        clear hown8 d12
        (repeat' first
    | ((with_reducible refine at_row ?_); refine row1_a fun _ _ _ _ _ _ _ => ?_)
    | with_reducible first | (first | apply alloc_k | apply row_k); intro _ _ _ _ _ _ | (first | apply fork | apply forkp) <;> intro _ | refine forke (fun _ => ?_) fun _ _ => ?_ | refine tail_k fun _ _ _ => ?_ | refine ext_k fun _ _ _ => ?_ | refine need_a ?_ | refine st_agg KR rfl ON fun _ _ _ _ => ?_ | refine wpd_q_a ?_
    | simp (maxDischargeDepth := 3) only [↓X, ↓Y, ↓Q, S1, ↓reduceIte, Nat.reduceEqDiff, Nat.reduceAdd, Int.reduceLT, Int.reduceLE, Int.reduceNeg, Int.reduceBEq, Int.reduceBNe, Int.reduceEq, Nat.reduceLeDiff, Nat.reduceMul, Nat.reduceLT, *]
    | simp (singlePass := true) (maxDischargeDepth := 99) only [*, S2, Nat.reduceLT])
        refine next_g hk hlt ?_
        (repeat' first
    | ((with_reducible refine at_row ?_); refine row1_a fun _ _ _ _ _ _ _ => ?_)
    | with_reducible first | (first | apply alloc_k | apply row_k); intro _ _ _ _ _ _ | (first | apply fork | apply forkp) <;> intro _ | refine forke (fun _ => ?_) fun _ _ => ?_ | refine tail_k fun _ _ _ => ?_ | refine ext_k fun _ _ _ => ?_ | refine need_a ?_ | refine st_agg KR rfl ON fun _ _ _ _ => ?_ | refine wpd_q_a ?_
    | simp (maxDischargeDepth := 3) only [↓X, ↓Y, ↓Q, S1, ↓reduceIte, Nat.reduceEqDiff, Nat.reduceAdd, Int.reduceLT, Int.reduceLE, Int.reduceNeg, Int.reduceBEq, Int.reduceBNe, Int.reduceEq, Nat.reduceLeDiff, Nat.reduceMul, Nat.reduceLT, *]
    | simp (singlePass := true) (maxDischargeDepth := 99) only [*, S2, Nat.reduceLT])
        all_goals exact F8.out.2
    · rename_i _ _ hk0
      have hk34 : L[k].kind = 3 ∨ L[k].kind = 4 := .inr hk0
      clear hk0
      have hRB : ∀ b ∈ [gg], b < wk.heap.size := by simp only [List.mem_cons, List.not_mem_nil, or_false, forall_eq_or_imp, forall_eq]; exact FR
      unfold wpdH
      refine wpd_relL 13 [gg] [(12, gg)] rfl (fun iI v w9 => match iI with
        | 0 => v = elemAt dv 5 k
        | 1 => v = elemAt dv 5 k
        | 2 => v = elemAt dv 5 k
        | 3 => v = elemAt dv 5 k
        | 4 => v = addF (elemAt dv 5 k) 4
        | 5 => v = intV L[k].is
        | 6 => v = elemAt dv 5 k
        | 7 => v = elemAt dv 5 k
        | 8 => v = addF (elemAt dv 5 k) 3
        | 9 => v = intV L[k].was
        | 10 => v = elemAt dv 5 k
        | 11 => v = addF (elemAt dv 5 k) 3
        | 12 => OwnD w9 w.heap.size dv (L.set k ⟨L[k].kind, L[k].host, L[k].service, L[k].is, L[k].is⟩)
        | _ => False) KR KR KR hRB (by simp only [List.nodup_cons, List.mem_cons, List.not_mem_nil, or_false, not_or, List.nodup_nil, not_false_eq_true, and_true] <;> exact FR) ?_ ?_ ?_
      · intro iI v w1 w2 hR hx9
        match iI, hR with
        | 0, h => exact h
        | 1, h => exact h
        | 2, h => exact h
        | 3, h => exact h
        | 4, h => exact h
        | 5, h => exact h
        | 6, h => exact h
        | 7, h => exact h
        | 8, h => exact h
        | 9, h => exact h
        | 10, h => exact h
        | 11, h => exact h
        | 12, h => exact Own.tbg h hx9 (fun b hb hX => by obtain rfl := Option.some.inj (hgv.symm.trans hb); exact hX.2 rfl)
      · intro iI oO hi ho gF w9 hx9 hdep hag hun
        have s9 := hx9.sb
        simp only [Sb, List.mem_cons, List.not_mem_nil, or_false, forall_eq_or_imp, forall_eq] at s9
        have n9 : Now w9 := trivial
        have r9 := Ext.refl w9
        have z9 := hx9.size
        rcases iI with _|_|_|_|_|_|_|_|_|_|_|_|_|iI
        have e := Option.some.inj ho
        subst e
        have a5 := hag.at 5 KR
        simp only [S5, ↓reduceIte, Nat.reduceEqDiff, initF, *] at a5
        have un12 : Kp gg wk w9 := ⟨hRB _ (by simp), hun 12 _ (by decide) rfl KR⟩
        clear hag hdep ho hun
        refine ⟨fun _ => ?_, fun b hb => by simp [bkL] at hb⟩
        refine relStep_off rfl ?_
        rotate_left
        have e := Option.some.inj ho
        subst e
        have a5 := hag.at 5 KR
        simp only [S5, ↓reduceIte, Nat.reduceEqDiff, initF, *] at a5
        clear hag hdep ho hun
        refine ⟨fun _ => ?_, fun b hb => by simp [bkL] at hb⟩
        refine relStep_off rfl ?_
        rotate_left
        have e := Option.some.inj ho
        subst e
        have a5 := hag.at 5 KR
        simp only [S5, ↓reduceIte, Nat.reduceEqDiff, initF, *] at a5
        have un12 : Kp gg wk w9 := ⟨hRB _ (by simp), hun 12 _ (by decide) rfl KR⟩
        clear hag hdep ho hun
        refine ⟨fun _ => ?_, fun b hb => by simp [bkL] at hb⟩
        refine relStep_off rfl ?_
        rotate_left
        have e := Option.some.inj ho
        subst e
        have d2 : (gF 27) = elemAt dv 5 k := hdep ⟨2, .data⟩ (by simp) rfl _ _ rfl rfl
        have un12 : Kp gg wk w9 := ⟨hRB _ (by simp), hun 12 _ (by decide) rfl KR⟩
        clear hag hdep ho hun
        refine ⟨fun _ => ?_, fun b hb => by simp [bkL] at hb⟩
        refine relStep_off rfl ?_
        rotate_left
        have e := Option.some.inj ho
        subst e
        have d3 : (gF 28) = elemAt dv 5 k := hdep ⟨3, .data⟩ (by simp) rfl _ _ rfl rfl
        have un12 : Kp gg wk w9 := ⟨hRB _ (by simp), hun 12 _ (by decide) rfl KR⟩
        clear hag hdep ho hun
        refine ⟨fun _ => ?_, fun b hb => by simp [bkL] at hb⟩
        refine relStep_off rfl ?_
        rotate_left
        have e := Option.some.inj ho
        subst e
        have d4 : (gF 29) = addF (elemAt dv 5 k) 4 := hdep ⟨4, .data⟩ (by simp) rfl _ _ rfl rfl
        have un12 : Kp gg wk w9 := ⟨hRB _ (by simp), hun 12 _ (by decide) rfl KR⟩
        clear hag hdep ho hun
        refine ⟨fun _ => ?_, fun b hb => by simp [bkL] at hb⟩
        refine relStep_off rfl ?_
        rotate_left
        have e := Option.some.inj ho
        subst e
        have a5 := hag.at 5 KR
        simp only [S5, ↓reduceIte, Nat.reduceEqDiff, initF, *] at a5
        clear hag hdep ho hun
        refine ⟨fun _ => ?_, fun b hb => by simp [bkL] at hb⟩
        refine relStep_off rfl ?_
        rotate_left
        have e := Option.some.inj ho
        subst e
        have d6 : (gF 31) = elemAt dv 5 k := hdep ⟨6, .data⟩ (by simp) rfl _ _ rfl rfl
        clear hag hdep ho hun
        refine ⟨fun _ => ?_, fun b hb => by simp [bkL] at hb⟩
        refine relStep_off rfl ?_
        rotate_left
        have e := Option.some.inj ho
        subst e
        have d7 : (gF 32) = elemAt dv 5 k := hdep ⟨7, .data⟩ (by simp) rfl _ _ rfl rfl
        clear hag hdep ho hun
        refine ⟨fun _ => ?_, fun b hb => by simp [bkL] at hb⟩
        refine relStep_off rfl ?_
        rotate_left
        have e := Option.some.inj ho
        subst e
        have d8 : (gF 33) = addF (elemAt dv 5 k) 3 := hdep ⟨8, .data⟩ (by simp) rfl _ _ rfl rfl
        have un12 : Kp gg wk w9 := ⟨hRB _ (by simp), hun 12 _ (by decide) rfl KR⟩
        clear hag hdep ho hun
        refine ⟨fun _ => ?_, fun b hb => by simp [bkL] at hb⟩
        refine relStep_off rfl ?_
        rotate_left
        have e := Option.some.inj ho
        subst e
        have d0 : (gF 25) = elemAt dv 5 k := hdep ⟨0, .data⟩ (by simp) rfl _ _ rfl rfl
        clear hag hdep ho hun
        refine ⟨fun _ => ?_, fun b hb => by simp [bkL] at hb⟩
        refine relStep_off rfl ?_
        rotate_left
        have e := Option.some.inj ho
        subst e
        have d10 : (gF 35) = elemAt dv 5 k := hdep ⟨10, .data⟩ (by simp) rfl _ _ rfl rfl
        have un12 : Kp gg wk w9 := ⟨hRB _ (by simp), hun 12 _ (by decide) rfl KR⟩
        clear hag hdep ho hun
        refine ⟨fun _ => ?_, fun b hb => by simp [bkL] at hb⟩
        refine relStep_off rfl ?_
        rotate_left
        have e := Option.some.inj ho
        subst e
        have d5 : (gF 30) = intV L[k].is := hdep ⟨5, .data⟩ (by simp) rfl _ _ rfl rfl
        have d11 : (gF 36) = addF (elemAt dv 5 k) 3 := hdep ⟨11, .data⟩ (by simp) rfl _ _ rfl rfl
        clear hag hdep ho hun
        refine ⟨fun h => by simp [bkL] at h, fun b hb hU => ?_⟩
        obtain rfl : gg = b := by simpa [bkL] using hb
        refine relStep_off rfl ?_
        rotate_left
        · omega
        all_goals (repeat' first
    | ((with_reducible refine at_row ?_); refine row1_a fun _ _ _ _ _ _ _ => ?_)
    | with_reducible first | (first | apply alloc_k | apply row_k); intro _ _ _ _ _ _ | (first | apply fork | apply forkp) <;> intro _ | refine forke (fun _ => ?_) fun _ _ => ?_ | refine tail_k fun _ _ _ => ?_ | refine ext_k fun _ _ _ => ?_ | refine need_a ?_ | refine st_agg KR rfl ON fun _ _ _ _ => ?_ | refine wpd_q_a ?_
    | simp (maxDischargeDepth := 3) only [↓X, ↓Y, ↓Q, S1, ↓reduceIte, Nat.reduceEqDiff, Nat.reduceAdd, Int.reduceLT, Int.reduceLE, Int.reduceNeg, Int.reduceBEq, Int.reduceBNe, Int.reduceEq, Nat.reduceLeDiff, Nat.reduceMul, Nat.reduceLT, *, driftC, hnil]
    | simp (singlePass := true) (maxDischargeDepth := 99) only [*, S2, Nat.reduceLT, driftC, hnil])
        all_goals first
          | (refine own_set1 (i := k) (off := 3) KR (hown.keep fun b hb => by obtain rfl := Option.some.inj (hgv.symm.trans hb); exact hU) (by simpa using hkL) (by decide) rfl fun b' w10 n10 e10 hb10 hl10 hown10 s10 c10 => ?_; obtain rfl := Option.some.inj (hgb.symm.trans e10); exact ⟨c10, own_upd hown10 (by simp [driftC, intV])⟩)
      · intro g9 w9 hx9 hR hS9 hag
        have s9 := hx9.sb
        simp only [Sb, List.mem_cons, List.not_mem_nil, or_false, forall_eq_or_imp, forall_eq] at s9
        have n9 : Now w9 := trivial
        have r9 := Ext.refl w9
        have z9 := hx9.size
        have d1 : (g9 26) = elemAt dv 5 k := hR 1 _ _ (by decide) rfl rfl
        have d9 : (g9 34) = intV L[k].was := hR 9 _ _ (by decide) rfl rfl
        obtain ⟨vs12, d12⟩ := hS9 12 _ (by decide) rfl
        replace d12 : OwnD w9 w.heap.size dv (L.set k ⟨L[k].kind, L[k].host, L[k].service, L[k].is, L[k].is⟩) := d12
        have a3 := hag.at 3 KR
        have a11 := hag.at 11 KR
        have a12 := hag.at 12 KR
        simp only [S5, ↓reduceIte, Nat.reduceEqDiff, initF, *] at a3 a11 a12
        clear hag hR hS9
        simp only [List.drop_succ_cons, List.drop_zero]
        (repeat' first
    | ((with_reducible refine at_row ?_); refine row1_a fun _ _ _ _ _ _ _ => ?_)
    | with_reducible first | (first | apply alloc_k | apply row_k); intro _ _ _ _ _ _ | (first | apply fork | apply forkp) <;> intro _ | refine forke (fun _ => ?_) fun _ _ => ?_ | refine tail_k fun _ _ _ => ?_ | refine ext_k fun _ _ _ => ?_ | refine need_a ?_ | refine st_agg KR rfl ON fun _ _ _ _ => ?_ | refine wpd_q_a ?_
    | simp (maxDischargeDepth := 3) only [↓X, ↓Y, ↓Q, S1, ↓reduceIte, Nat.reduceEqDiff, Nat.reduceAdd, Int.reduceLT, Int.reduceLE, Int.reduceNeg, Int.reduceBEq, Int.reduceBNe, Int.reduceEq, Nat.reduceLeDiff, Nat.reduceMul, Nat.reduceLT, *, driftC, hnil]
    | simp (singlePass := true) (maxDischargeDepth := 99) only [*, S2, Nat.reduceLT, driftC, hnil])
        refine own_set1 (i := k) (off := 4) KR d12 (by simpa using hkL) (by decide) rfl fun b' w8 n8 e8 hb8 hl8 hown8 s8 c8 => ?_
        obtain rfl := Option.some.inj (hgb.symm.trans e8)
        have F8 : Hid (Ext w w8 ∧ OwnD w8 w.heap.size dv (backI R (k + 1))) := by
          refine ⟨FR, ?_⟩
          rw [← hset.out]
          have h9 := own_upd (D := backD L[k]) hown8 (by simp [backD, hk34, driftC, intV])
          simpa using h9
        clear hown8 d12
        (repeat' first
    | ((with_reducible refine at_row ?_); refine row1_a fun _ _ _ _ _ _ _ => ?_)
    | with_reducible first | (first | apply alloc_k | apply row_k); intro _ _ _ _ _ _ | (first | apply fork | apply forkp) <;> intro _ | refine forke (fun _ => ?_) fun _ _ => ?_ | refine tail_k fun _ _ _ => ?_ | refine ext_k fun _ _ _ => ?_ | refine need_a ?_ | refine st_agg KR rfl ON fun _ _ _ _ => ?_ | refine wpd_q_a ?_
    | simp (maxDischargeDepth := 3) only [↓X, ↓Y, ↓Q, S1, ↓reduceIte, Nat.reduceEqDiff, Nat.reduceAdd, Int.reduceLT, Int.reduceLE, Int.reduceNeg, Int.reduceBEq, Int.reduceBNe, Int.reduceEq, Nat.reduceLeDiff, Nat.reduceMul, Nat.reduceLT, *]
    | simp (singlePass := true) (maxDischargeDepth := 99) only [*, S2, Nat.reduceLT])
        refine next_g hk hlt ?_
        (repeat' first
    | ((with_reducible refine at_row ?_); refine row1_a fun _ _ _ _ _ _ _ => ?_)
    | with_reducible first | (first | apply alloc_k | apply row_k); intro _ _ _ _ _ _ | (first | apply fork | apply forkp) <;> intro _ | refine forke (fun _ => ?_) fun _ _ => ?_ | refine tail_k fun _ _ _ => ?_ | refine ext_k fun _ _ _ => ?_ | refine need_a ?_ | refine st_agg KR rfl ON fun _ _ _ _ => ?_ | refine wpd_q_a ?_
    | simp (maxDischargeDepth := 3) only [↓X, ↓Y, ↓Q, S1, ↓reduceIte, Nat.reduceEqDiff, Nat.reduceAdd, Int.reduceLT, Int.reduceLE, Int.reduceNeg, Int.reduceBEq, Int.reduceBNe, Int.reduceEq, Nat.reduceLeDiff, Nat.reduceMul, Nat.reduceLT, *]
    | simp (singlePass := true) (maxDischargeDepth := 99) only [*, S2, Nat.reduceLT])
        all_goals exact F8.out.2
    · rename_i _ _ _ _ hk0
      refine own_set1 (i := k) (off := 0) KR hown (by simpa using hkL) (by decide) rfl fun b' w8 n8 e8 hb8 hl8 hown8 s8 c8 => ?_
      obtain rfl := Option.some.inj (hgb.symm.trans e8)
      have F8 : Hid (Ext w w8 ∧ OwnD w8 w.heap.size dv (backI R (k + 1))) := by
        refine ⟨FR, ?_⟩
        rw [← hset.out]
        exact own_upd (D := backD L[k]) hown8 (by simp [backD, hk0, driftC, intV])
      clear hown8
      (repeat' first
    | ((with_reducible refine at_row ?_); refine row1_a fun _ _ _ _ _ _ _ => ?_)
    | with_reducible first | (first | apply alloc_k | apply row_k); intro _ _ _ _ _ _ | (first | apply fork | apply forkp) <;> intro _ | refine forke (fun _ => ?_) fun _ _ => ?_ | refine tail_k fun _ _ _ => ?_ | refine ext_k fun _ _ _ => ?_ | refine need_a ?_ | refine st_agg KR rfl ON fun _ _ _ _ => ?_ | refine wpd_q_a ?_
    | simp (maxDischargeDepth := 3) only [↓X, ↓Y, ↓Q, S1, ↓reduceIte, Nat.reduceEqDiff, Nat.reduceAdd, Int.reduceLT, Int.reduceLE, Int.reduceNeg, Int.reduceBEq, Int.reduceBNe, Int.reduceEq, Nat.reduceLeDiff, Nat.reduceMul, Nat.reduceLT, *]
    | simp (singlePass := true) (maxDischargeDepth := 99) only [*, S2, Nat.reduceLT])
      refine next_g hk hlt ?_
      (repeat' first
    | ((with_reducible refine at_row ?_); refine row1_a fun _ _ _ _ _ _ _ => ?_)
    | with_reducible first | (first | apply alloc_k | apply row_k); intro _ _ _ _ _ _ | (first | apply fork | apply forkp) <;> intro _ | refine forke (fun _ => ?_) fun _ _ => ?_ | refine tail_k fun _ _ _ => ?_ | refine ext_k fun _ _ _ => ?_ | refine need_a ?_ | refine st_agg KR rfl ON fun _ _ _ _ => ?_ | refine wpd_q_a ?_
    | simp (maxDischargeDepth := 3) only [↓X, ↓Y, ↓Q, S1, ↓reduceIte, Nat.reduceEqDiff, Nat.reduceAdd, Int.reduceLT, Int.reduceLE, Int.reduceNeg, Int.reduceBEq, Int.reduceBNe, Int.reduceEq, Nat.reduceLeDiff, Nat.reduceMul, Nat.reduceLT, *]
    | simp (singlePass := true) (maxDischargeDepth := 99) only [*, S2, Nat.reduceLT])
      all_goals exact F8.out.2
    · rename_i _ _ _ _ _ _ hk0
      refine own_set1 (i := k) (off := 0) KR hown (by simpa using hkL) (by decide) rfl fun b' w8 n8 e8 hb8 hl8 hown8 s8 c8 => ?_
      obtain rfl := Option.some.inj (hgb.symm.trans e8)
      have F8 : Hid (Ext w w8 ∧ OwnD w8 w.heap.size dv (backI R (k + 1))) := by
        refine ⟨FR, ?_⟩
        rw [← hset.out]
        exact own_upd (D := backD L[k]) hown8 (by simp [backD, hk0, driftC, intV])
      clear hown8
      (repeat' first
    | ((with_reducible refine at_row ?_); refine row1_a fun _ _ _ _ _ _ _ => ?_)
    | with_reducible first | (first | apply alloc_k | apply row_k); intro _ _ _ _ _ _ | (first | apply fork | apply forkp) <;> intro _ | refine forke (fun _ => ?_) fun _ _ => ?_ | refine tail_k fun _ _ _ => ?_ | refine ext_k fun _ _ _ => ?_ | refine need_a ?_ | refine st_agg KR rfl ON fun _ _ _ _ => ?_ | refine wpd_q_a ?_
    | simp (maxDischargeDepth := 3) only [↓X, ↓Y, ↓Q, S1, ↓reduceIte, Nat.reduceEqDiff, Nat.reduceAdd, Int.reduceLT, Int.reduceLE, Int.reduceNeg, Int.reduceBEq, Int.reduceBNe, Int.reduceEq, Nat.reduceLeDiff, Nat.reduceMul, Nat.reduceLT, *]
    | simp (singlePass := true) (maxDischargeDepth := 99) only [*, S2, Nat.reduceLT])
      refine next_g hk hlt ?_
      (repeat' first
    | ((with_reducible refine at_row ?_); refine row1_a fun _ _ _ _ _ _ _ => ?_)
    | with_reducible first | (first | apply alloc_k | apply row_k); intro _ _ _ _ _ _ | (first | apply fork | apply forkp) <;> intro _ | refine forke (fun _ => ?_) fun _ _ => ?_ | refine tail_k fun _ _ _ => ?_ | refine ext_k fun _ _ _ => ?_ | refine need_a ?_ | refine st_agg KR rfl ON fun _ _ _ _ => ?_ | refine wpd_q_a ?_
    | simp (maxDischargeDepth := 3) only [↓X, ↓Y, ↓Q, S1, ↓reduceIte, Nat.reduceEqDiff, Nat.reduceAdd, Int.reduceLT, Int.reduceLE, Int.reduceNeg, Int.reduceBEq, Int.reduceBNe, Int.reduceEq, Nat.reduceLeDiff, Nat.reduceMul, Nat.reduceLT, *]
    | simp (singlePass := true) (maxDischargeDepth := 99) only [*, S2, Nat.reduceLT])
      all_goals exact F8.out.2
    · rename_i _ h3 _ h4 _ h1 _ h2
      refine next_g hk hlt ?_
      (repeat' first
    | ((with_reducible refine at_row ?_); refine row1_a fun _ _ _ _ _ _ _ => ?_)
    | with_reducible first | (first | apply alloc_k | apply row_k); intro _ _ _ _ _ _ | (first | apply fork | apply forkp) <;> intro _ | refine forke (fun _ => ?_) fun _ _ => ?_ | refine tail_k fun _ _ _ => ?_ | refine ext_k fun _ _ _ => ?_ | refine need_a ?_ | refine st_agg KR rfl ON fun _ _ _ _ => ?_ | refine wpd_q_a ?_
    | simp (maxDischargeDepth := 3) only [↓X, ↓Y, ↓Q, S1, ↓reduceIte, Nat.reduceEqDiff, Nat.reduceAdd, Int.reduceLT, Int.reduceLE, Int.reduceNeg, Int.reduceBEq, Int.reduceBNe, Int.reduceEq, Nat.reduceLeDiff, Nat.reduceMul, Nat.reduceLT, *]
    | simp (singlePass := true) (maxDischargeDepth := 99) only [*, S2, Nat.reduceLT])
      all_goals
        have e : backD L[k] = L[k] := by rw [backD, if_neg (by omega), if_neg h1, if_neg h2]
        have e2 := hset.out
        rw [e, List.set_getElem_self] at e2
        rw [← e2]
        exact hown
  · rintro g wk nk ⟨hi, hf, hp⟩
    simp (maxDischargeDepth := 3) only [U, ↓reduceIte, Nat.reduceEqDiff, *] at hf
    (repeat' first
    | ((with_reducible refine at_row ?_); refine row1_a fun _ _ _ _ _ _ _ => ?_)
    | with_reducible first | (first | apply alloc_k | apply row_k); intro _ _ _ _ _ _ | (first | apply fork | apply forkp) <;> intro _ | refine forke (fun _ => ?_) fun _ _ => ?_ | refine tail_k fun _ _ _ => ?_ | refine ext_k fun _ _ _ => ?_ | refine need_a ?_ | refine st_agg KR rfl ON fun _ _ _ _ => ?_ | refine wpd_q_a ?_
    | simp (maxDischargeDepth := 3) only [↓X, ↓Y, ↓Q, S1, ↓reduceIte, Nat.reduceEqDiff, Nat.reduceAdd, Int.reduceLT, Int.reduceLE, Int.reduceNeg, Int.reduceBEq, Int.reduceBNe, Int.reduceEq, Nat.reduceLeDiff, Nat.reduceMul, Nat.reduceLT, *]
    | simp (singlePass := true) (maxDischargeDepth := 99) only [*, S2, Nat.reduceLT])
    have := hp.out
    simpa [backI] using this
end
end Go.Proofs.Ytmcdgepfhpakiaa
