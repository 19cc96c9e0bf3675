
/- The layer drift: what an effect does to a host. -/
import Derived.Test.YtmcdgepfhpakiaaDrift5
import Derived.Test.YtmcdgepfhpakiaaSet13
import Derived.Test.YtmcdgepfhpakiaaStart13b
import Derived.Test.YtmcdgepfhpakiaaPure30
import Derived.Test.YtmcdgepfhpakiaaCut
namespace Go.Proofs.Ytmcdgepfhpakiaa
set_option linter.unusedSimpArgs false
set_option linter.unusedVariables false
open Go Go.RowKit
set_option maxRecDepth 100000
set_option linter.unusedSectionVars false
set_option maxHeartbeats 2000000
def hostW (x : WorldD) (h : Int) (ok : Bool) (s : StateD) : WorldD := if hostE x h ok = 0 then ⟨x.hosts.set h.toNat s, x.replicas⟩ else noW
section
variable {w : World} {B : Nat} {hv rv : Value} {x : WorldD}
theorem driftHost {cl : Nat} {caps : List Value} {d : DriftD} {okf : StateD → Bool} {nw : StateD → StateD} (hB : B ≤ w.heap.size) (hx0 : WorldR w B hv rv x) (hl1 : x.hosts.length ≤ 1000000) (hl2 : x.replicas.length ≤ 1000000) (hc : callable Try.prog cl = true)
    (hfn : ∀ b w', Ext w w' → w.heap.size ≤ b → Blk w' b 46 (stateC (stAt x d.host)) → CallsV Try.prog cl (.pointer (some ⟨b, 0, none⟩) :: caps).toArray w' fun v w'' => v = .bool (okf (stAt x d.host)) ∧ Blk w'' b 46 (stateC (nw (stAt x d.host))) ∧ Chg w' w'' b) :
    CallsV Try.prog 30 #[.agg #[hv, rv], driftV d, .func (.func cl) #[] caps.toArray] w fun v w' => Ext w w' ∧ ∃ u, v = .tuple #[u, intV (hostE x d.host (okf (stAt x d.host)))] ∧ OwnW w.heap.size u w' (hostW x d.host (okf (stAt x d.host)) (nw (stAt x d.host))) := by
  have hn : Now w := trivial
  have hx : Ext w w := Ext.refl w
  have hx' := hx0.sk hB
  have hX := hx'.2.2.2.2
  have hl1 : Hid _ := hl1
  have hl2 : Hid _ := hl2
  by_cases hr : d.host < 0 ∨ (x.hosts.length : Int) ≤ d.host
  · have h1 : hostE x d.host (okf (stAt x d.host)) = 1 := by rw [hostE, if_pos hr]
    have h2 : hostW x d.host (okf (stAt x d.host)) (nw (stAt x d.host)) = noW := by rw [hostW, h1, if_neg (by decide)]
    rw [h1, h2]
    clear h1 h2
    (refine callsV_of Try.func30 rfl KR KR ?_; rw [Try.results30])
    (repeat' first
    | ((with_reducible refine at_row ?_); refine row1_a fun _ _ _ _ _ _ _ => ?_)
    | with_reducible first | (first | apply alloc_k | apply row_k); intro _ _ _ _ _ _ | (first | apply fork | apply forkp) <;> intro _ | refine forke (fun _ => ?_) fun _ _ => ?_ | refine tail_k fun _ _ _ => ?_ | refine ext_k fun _ _ _ => ?_ | refine need_a ?_ | refine st_agg KR rfl ON fun _ _ _ _ => ?_ | refine wpd_q_a ?_
    | simp (maxDischargeDepth := 3) only [↓X, ↓Y, ↓Q, S1, ↓reduceIte, Nat.reduceEqDiff, Nat.reduceAdd, Int.reduceLT, Int.reduceLE, Int.reduceNeg, Int.reduceBEq, Int.reduceBNe, Int.reduceEq, Nat.reduceLeDiff, Nat.reduceMul, Nat.reduceLT, *, driftV, driftC]
    | simp (singlePass := true) (maxDischargeDepth := 99) only [*, S2, Nat.reduceLT, driftV, driftC])
    · exact ⟨_, rfl, OwnW.none _ _⟩
    · exact ⟨_, rfl, OwnW.none _ _⟩
    · exfalso; omega
  · obtain ⟨kd, dh, ds, dw, di⟩ := d
    simp only at hr ⊢
    obtain ⟨i, rfl⟩ : ∃ i : Nat, dh = (i : Int) := ⟨dh.toNat, by omega⟩
    have hi : i < x.hosts.length := by omega
    have hi' : ¬ x.hosts.length ≤ i := by omega
    have hst : stAt x i = x.hosts[i] := by simp [stAt, List.getD_eq_getElem?_getD, hi]
    simp only [hst] at hfn
    rw [hst]
    have hE : hostE x i (okf x.hosts[i]) = if okf x.hosts[i] = true then setE x i else 8 := by
      rw [hostE, if_neg hr]
      unfold setE setOk
      simp [idx, hi]
    have hW : okf x.hosts[i] = true → hostW x i (okf x.hosts[i]) (nw x.hosts[i]) = setW x i (nw x.hosts[i]) := fun h => by
      rw [hostW, hE, if_pos h]
      unfold setW setE
      by_cases h9 : setOk x i = true
      · simp [h9]
      · simp [h9]
    have hW2 : okf x.hosts[i] = false → hostW x i (okf x.hosts[i]) (nw x.hosts[i]) = noW := fun h => by
      rw [hostW, hE, h]; simp
    rw [hE]
    clear hr hst hE
    (refine callsV_of Try.func30 rfl KR KR ?_; rw [Try.results30])
    (repeat' first
    | ((with_reducible refine at_row ?_); refine row1_a fun _ _ _ _ _ _ _ => ?_)
    | with_reducible first | (first | apply alloc_k | apply row_k); intro _ _ _ _ _ _ | (first | apply fork | apply forkp) <;> intro _ | refine forke (fun _ => ?_) fun _ _ => ?_ | refine tail_k fun _ _ _ => ?_ | refine ext_k fun _ _ _ => ?_ | refine need_a ?_ | refine st_agg KR rfl ON fun _ _ _ _ => ?_ | refine wpd_q_a ?_
    | simp (maxDischargeDepth := 3) only [↓X, ↓Y, ↓Q, S1, ↓reduceIte, Nat.reduceEqDiff, Nat.reduceAdd, Int.reduceLT, Int.reduceLE, Int.reduceNeg, Int.reduceBEq, Int.reduceBNe, Int.reduceEq, Nat.reduceLeDiff, Nat.reduceMul, Nat.reduceLT, *, driftV, driftC, stateV]
    | simp (singlePass := true) (maxDischargeDepth := 99) only [*, S2, Nat.reduceLT, driftV, driftC, stateV])
    rename_i b2 w2 n2 k2 s2 q2 b3 w3 n3 k3 s3 q3 b4 w4 n4 k4 s4 q4 b5 w5 n5 k5 s5 q5 w6 n6 k6 s6
    refine CallsV.mono (hfn b5 w6 FR FR (k6.2.1 _ FR)) ?_
    rintro _ w7 ⟨rfl, hk7, hc7⟩
    have k7 := hk7.bk
    have s7 := hc7.sc
    have n7 : Now w7 := trivial
    have q5' : w.heap.size ≤ b5 := FR
    clear hfn hc hk7 hc7 k5 k6
    generalize nw x.hosts[i] = st at *
    cases hok : okf x.hosts[i]
    · rw [hok] at hW2
      rw [hW2 rfl]
      clear hW hW2
      (repeat' first
    | ((with_reducible refine at_row ?_); refine row1_a fun _ _ _ _ _ _ _ => ?_)
    | with_reducible first | (first | apply alloc_k | apply row_k); intro _ _ _ _ _ _ | (first | apply fork | apply forkp) <;> intro _ | refine forke (fun _ => ?_) fun _ _ => ?_ | refine tail_k fun _ _ _ => ?_ | refine ext_k fun _ _ _ => ?_ | refine need_a ?_ | refine st_agg KR rfl ON fun _ _ _ _ => ?_ | refine wpd_q_a ?_
    | simp (maxDischargeDepth := 3) only [↓X, ↓Y, ↓Q, S1, ↓reduceIte, Nat.reduceEqDiff, Nat.reduceAdd, Int.reduceLT, Int.reduceLE, Int.reduceNeg, Int.reduceBEq, Int.reduceBNe, Int.reduceEq, Nat.reduceLeDiff, Nat.reduceMul, Nat.reduceLT, *, driftV, driftC, stateC]
    | simp (singlePass := true) (maxDischargeDepth := 99) only [*, S2, Nat.reduceLT, driftV, driftC, stateC])
      exact ⟨_, rfl, OwnW.none _ _⟩
    · rw [hok] at hW
      rw [hW rfl, if_pos rfl]
      clear hW hW2
      (repeat' first
    | ((with_reducible refine at_row ?_); refine row1_a fun _ _ _ _ _ _ _ => ?_)
    | with_reducible first | (first | apply alloc_k | apply row_k); intro _ _ _ _ _ _ | (first | apply fork | apply forkp) <;> intro _ | refine forke (fun _ => ?_) fun _ _ => ?_ | refine tail_k fun _ _ _ => ?_ | refine ext_k fun _ _ _ => ?_ | refine need_a ?_ | refine st_agg KR rfl ON fun _ _ _ _ => ?_ | refine wpd_q_a ?_
    | simp (maxDischargeDepth := 3) only [↓X, ↓Y, ↓Q, S1, ↓reduceIte, Nat.reduceEqDiff, Nat.reduceAdd, Int.reduceLT, Int.reduceLE, Int.reduceNeg, Int.reduceBEq, Int.reduceBNe, Int.reduceEq, Nat.reduceLeDiff, Nat.reduceMul, Nat.reduceLT, *, driftV, driftC, stateC]
    | simp (singlePass := true) (maxDischargeDepth := 99) only [*, S2, Nat.reduceLT, driftV, driftC, stateC])
      refine call_k (worldSet (host := i) (h := st) (B := B) FR (hX _ FR) hl1.out hl2.out) ?_
      rintro _ w8 n8 s8 ⟨_, rfl, h8, r8, rfl, oh, or⟩
      have a1 := oh.one
      have a2 := or.one
      have o1 := oh.o
      have o2 := or.o
      have z7 : w.heap.size ≤ w7.heap.size := FR
      (repeat' first
    | ((with_reducible refine at_row ?_); refine row1_a fun _ _ _ _ _ _ _ => ?_)
    | with_reducible first | (first | apply alloc_k | apply row_k); intro _ _ _ _ _ _ | (first | apply fork | apply forkp) <;> intro _ | refine forke (fun _ => ?_) fun _ _ => ?_ | refine tail_k fun _ _ _ => ?_ | refine ext_k fun _ _ _ => ?_ | refine need_a ?_ | refine st_agg KR rfl ON fun _ _ _ _ => ?_ | refine wpd_q_a ?_
    | simp (maxDischargeDepth := 3) only [↓X, ↓Y, ↓Q, S1, ↓reduceIte, Nat.reduceEqDiff, Nat.reduceAdd, Int.reduceLT, Int.reduceLE, Int.reduceNeg, Int.reduceBEq, Int.reduceBNe, Int.reduceEq, Nat.reduceLeDiff, Nat.reduceMul, Nat.reduceLT, *]
    | simp (singlePass := true) (maxDischargeDepth := 99) only [*, S2, Nat.reduceLT])
      exact ⟨_, rfl, _, _, rfl, (o1.1 _ FR).more z7, (o2.1 _ FR).more z7⟩
theorem driftEff31 {b b4 : Nat} {p f : Int} {d : DriftD} (hb : Blk w b 46 [.int .u8 p, intV f]) (hd : Blk w b4 42 (driftC d)) (hp : 0 ≤ p ∧ p ≤ 255) (hi : 0 ≤ d.is ∧ d.is ≤ 255) : CallsV Try.prog 34 #[.pointer (some ⟨b, 0, none⟩), .pointer (some ⟨b4, 0, none⟩)] w fun v w' => v = .bool (decide (p = d.was)) ∧ Blk w' b 46 (stateC ⟨d.is, f⟩) ∧ Chg w w' b := by
  have hne : ¬ b4 = b := hd.ne hb (by decide)
  have hp' : IntKind.i64.wrap p = p := by rw [wrap_i64_id] <;> omega
  have hi' : IntKind.u8.wrap d.is = d.is := by rw [IntKind.wrap_u8]; omega
  have hn : Now w := trivial
  have hx : Ext w w := Ext.refl w
  have kb := hb.bk
  have kd := hd.bk
  have cb : Cg b w w := Chg.refl' w b
  (refine callsV_of Try.func34 rfl KR KR ?_; rw [Try.results34])
  (repeat' first
    | ((with_reducible refine at_row ?_); refine row1_a fun _ _ _ _ _ _ _ => ?_)
    | with_reducible first | (first | apply alloc_k | apply row_k); intro _ _ _ _ _ _ | (first | apply fork | apply forkp) <;> intro _ | refine forke (fun _ => ?_) fun _ _ => ?_ | refine tail_k fun _ _ _ => ?_ | refine ext_k fun _ _ _ => ?_ | refine need_a ?_ | refine st_agg KR rfl ON fun _ _ _ _ => ?_ | refine wpd_q_a ?_
    | simp (maxDischargeDepth := 3) only [↓X, ↓Y, ↓Q, S1, ↓reduceIte, Nat.reduceEqDiff, Nat.reduceAdd, Int.reduceLT, Int.reduceLE, Int.reduceNeg, Int.reduceBEq, Int.reduceBNe, Int.reduceEq, Nat.reduceLeDiff, Nat.reduceMul, Nat.reduceLT, *, driftC]
    | simp (singlePass := true) (maxDischargeDepth := 99) only [*, S2, Nat.reduceLT, driftC])
  refine st_one (i := 0) KR (by simp) rfl fun w2 n2 k2 s2 => ?_
  simp only [List.set_cons_zero] at k2
  have c2 : Cg b w w2 := FR
  (repeat' first
    | ((with_reducible refine at_row ?_); refine row1_a fun _ _ _ _ _ _ _ => ?_)
    | with_reducible first | (first | apply alloc_k | apply row_k); intro _ _ _ _ _ _ | (first | apply fork | apply forkp) <;> intro _ | refine forke (fun _ => ?_) fun _ _ => ?_ | refine tail_k fun _ _ _ => ?_ | refine ext_k fun _ _ _ => ?_ | refine need_a ?_ | refine st_agg KR rfl ON fun _ _ _ _ => ?_ | refine wpd_q_a ?_
    | simp (maxDischargeDepth := 3) only [↓X, ↓Y, ↓Q, S1, ↓reduceIte, Nat.reduceEqDiff, Nat.reduceAdd, Int.reduceLT, Int.reduceLE, Int.reduceNeg, Int.reduceBEq, Int.reduceBNe, Int.reduceEq, Nat.reduceLeDiff, Nat.reduceMul, Nat.reduceLT, *, driftC]
    | simp (singlePass := true) (maxDischargeDepth := 99) only [*, S2, Nat.reduceLT, driftC])
  exact ⟨congrArg Value.bool (by rw [Bool.eq_iff_iff]; simp), k2.2.1 _ FR, (show Cg b w _ by first | exact c2 | exact FR)⟩
theorem driftEff41 {b b4 : Nat} {p f : Int} {d : DriftD} (hb : Blk w b 46 [.int .u8 p, intV f]) (hd : Blk w b4 42 (driftC d)) : CallsV Try.prog 36 #[.pointer (some ⟨b, 0, none⟩), .pointer (some ⟨b4, 0, none⟩)] w fun v w' => v = .bool (decide (f = d.was)) ∧ Blk w' b 46 (stateC ⟨p, d.is⟩) ∧ Chg w w' b := by
  have hne : ¬ b4 = b := hd.ne hb (by decide)
  have hn : Now w := trivial
  have hx : Ext w w := Ext.refl w
  have kb := hb.bk
  have kd := hd.bk
  have cb : Cg b w w := Chg.refl' w b
  (refine callsV_of Try.func36 rfl KR KR ?_; rw [Try.results36])
  (repeat' first
    | ((with_reducible refine at_row ?_); refine row1_a fun _ _ _ _ _ _ _ => ?_)
    | with_reducible first | (first | apply alloc_k | apply row_k); intro _ _ _ _ _ _ | (first | apply fork | apply forkp) <;> intro _ | refine forke (fun _ => ?_) fun _ _ => ?_ | refine tail_k fun _ _ _ => ?_ | refine ext_k fun _ _ _ => ?_ | refine need_a ?_ | refine st_agg KR rfl ON fun _ _ _ _ => ?_ | refine wpd_q_a ?_
    | simp (maxDischargeDepth := 3) only [↓X, ↓Y, ↓Q, S1, ↓reduceIte, Nat.reduceEqDiff, Nat.reduceAdd, Int.reduceLT, Int.reduceLE, Int.reduceNeg, Int.reduceBEq, Int.reduceBNe, Int.reduceEq, Nat.reduceLeDiff, Nat.reduceMul, Nat.reduceLT, *, driftC]
    | simp (singlePass := true) (maxDischargeDepth := 99) only [*, S2, Nat.reduceLT, driftC])
  refine st_one (i := 1) KR (by simp) rfl fun w2 n2 k2 s2 => ?_
  simp only [List.set_cons_zero, List.set_cons_succ] at k2
  have c2 : Cg b w w2 := FR
  (repeat' first
    | ((with_reducible refine at_row ?_); refine row1_a fun _ _ _ _ _ _ _ => ?_)
    | with_reducible first | (first | apply alloc_k | apply row_k); intro _ _ _ _ _ _ | (first | apply fork | apply forkp) <;> intro _ | refine forke (fun _ => ?_) fun _ _ => ?_ | refine tail_k fun _ _ _ => ?_ | refine ext_k fun _ _ _ => ?_ | refine need_a ?_ | refine st_agg KR rfl ON fun _ _ _ _ => ?_ | refine wpd_q_a ?_
    | simp (maxDischargeDepth := 3) only [↓X, ↓Y, ↓Q, S1, ↓reduceIte, Nat.reduceEqDiff, Nat.reduceAdd, Int.reduceLT, Int.reduceLE, Int.reduceNeg, Int.reduceBEq, Int.reduceBNe, Int.reduceEq, Nat.reduceLeDiff, Nat.reduceMul, Nat.reduceLT, *, driftC]
    | simp (singlePass := true) (maxDischargeDepth := 99) only [*, S2, Nat.reduceLT, driftC])
  exact ⟨congrArg Value.bool (by rw [Bool.eq_iff_iff]; simp), k2.2.1 _ FR, (show Cg b w _ by first | exact c2 | exact FR)⟩
end
/-- What one difference leaves. -/
def oneR (x : WorldD) (d : DriftD) : WorldD := if oneE x d = 0 then oneW x d else noW
section
variable {w : World} {B : Nat} {hv rv : Value} {x : WorldD} {d : DriftD}
theorem stAt_phase (hp : ∀ s ∈ x.hosts, 0 ≤ s.phase ∧ s.phase ≤ 255) (h : Int) : 0 ≤ (stAt x h).phase ∧ (stAt x h).phase ≤ 255 := by
  unfold stAt
  rw [List.getD_eq_getElem?_getD]
  cases h9 : x.hosts[h.toNat]? with
  | none => simp
  | some s => exact hp s (List.mem_of_getElem? h9)
theorem driftEff3 {b1 : Nat} (hB : B ≤ w.heap.size) (hx0 : WorldR w B hv rv x) (hl1 : x.hosts.length ≤ 1000000) (hl2 : x.replicas.length ≤ 1000000) (hp : ∀ s ∈ x.hosts, 0 ≤ s.phase ∧ s.phase ≤ 255) (h1 : Blk w b1 tEff1 effC1) (hk : d.kind = 3) :
    CallsV Try.prog 33 #[.agg #[hv, rv], driftV d, .pointer (some ⟨b1, 0, none⟩)] w fun v w' => Ext w w' ∧ ∃ u, v = .tuple #[u, intV (oneE x d)] ∧ OwnW w.heap.size u w' (oneR x d) := by
  have hn : Now w := trivial
  have hx : Ext w w := Ext.refl w
  have hx' := hx0.sk hB
  have hX := hx'.2.2.2.2
  have hl1 : Hid _ := hl1
  have hl2 : Hid _ := hl2
  have k1 := h1.bk
  have hcal : callable Try.prog 34 = true := by kernel_rfl
  by_cases hr : d.is < 0 ∨ 255 < d.is
  · have e1 : oneE x d = 1 := by rw [oneE, if_pos hk, if_pos hr]
    have e2 : oneR x d = noW := by rw [oneR, e1, if_neg (by decide)]
    rw [e1, e2]
    clear e1 e2 hk
    (refine callsV_of Try.func33 rfl KR KR ?_; rw [Try.results33])
    (repeat' first
    | ((with_reducible refine at_row ?_); refine row1_a fun _ _ _ _ _ _ _ => ?_)
    | with_reducible first | (first | apply alloc_k | apply row_k); intro _ _ _ _ _ _ | (first | apply fork | apply forkp) <;> intro _ | refine forke (fun _ => ?_) fun _ _ => ?_ | refine tail_k fun _ _ _ => ?_ | refine ext_k fun _ _ _ => ?_ | refine need_a ?_ | refine st_agg KR rfl ON fun _ _ _ _ => ?_ | refine wpd_q_a ?_
    | simp (maxDischargeDepth := 3) only [↓X, ↓Y, ↓Q, S1, ↓reduceIte, Nat.reduceEqDiff, Nat.reduceAdd, Int.reduceLT, Int.reduceLE, Int.reduceNeg, Int.reduceBEq, Int.reduceBNe, Int.reduceEq, Nat.reduceLeDiff, Nat.reduceMul, Nat.reduceLT, *, driftV, driftC, effC1]
    | simp (singlePass := true) (maxDischargeDepth := 99) only [*, S2, Nat.reduceLT, driftV, driftC, effC1])
    · exact ⟨_, rfl, OwnW.none _ _⟩
    · exact ⟨_, rfl, OwnW.none _ _⟩
    · exfalso; omega
  · have e1 : oneE x d = hostE x d.host (decide ((stAt x d.host).phase = d.was)) := by rw [oneE, if_pos hk, if_neg hr]
    have e2 : oneR x d = hostW x d.host (decide ((stAt x d.host).phase = d.was)) ⟨d.is, (stAt x d.host).firmware⟩ := by rw [oneR, oneW, if_pos hk, hostW, e1]
    rw [e1, e2]
    clear e1 e2 hk
    have hi : 0 ≤ d.is ∧ d.is ≤ 255 := by omega
    have hi : Hid _ := hi
    (refine callsV_of Try.func33 rfl KR KR ?_; rw [Try.results33])
    (repeat' first
    | ((with_reducible refine at_row ?_); refine row1_a fun _ _ _ _ _ _ _ => ?_)
    | with_reducible first | (first | apply alloc_k | apply row_k); intro _ _ _ _ _ _ | (first | apply fork | apply forkp) <;> intro _ | refine forke (fun _ => ?_) fun _ _ => ?_ | refine tail_k fun _ _ _ => ?_ | refine ext_k fun _ _ _ => ?_ | refine need_a ?_ | refine st_agg KR rfl ON fun _ _ _ _ => ?_ | refine wpd_q_a ?_
    | simp (maxDischargeDepth := 3) only [↓X, ↓Y, ↓Q, S1, ↓reduceIte, Nat.reduceEqDiff, Nat.reduceAdd, Int.reduceLT, Int.reduceLE, Int.reduceNeg, Int.reduceBEq, Int.reduceBNe, Int.reduceEq, Nat.reduceLeDiff, Nat.reduceMul, Nat.reduceLT, *, driftV, driftC, effC1]
    | simp (singlePass := true) (maxDischargeDepth := 99) only [*, S2, Nat.reduceLT, driftV, driftC, effC1])
    · exfalso; have := hi.out; omega
    · exfalso; have := hi.out; omega
    · rename_i b2 w2 n2 k2 s2 q2 b3 w3 n3 k3 s3 q3 b4 w4 n4 k4 s4 q4 _ _
      have K3 := k3.2.1 w4 FR
      refine call_k (driftHost (B := B) (d := d) (okf := fun st => decide (st.phase = d.was)) (nw := fun st => ⟨d.is, st.firmware⟩) (caps := [.pointer (some ⟨b3, 0, none⟩)]) FR (hX _ FR) hl1.out hl2.out hcal fun b w' hxb hbb hblk => driftEff31 hblk (K3.ext hxb) (stAt_phase hp _) hi.out) ?_
      rintro _ w8 n8 s8 ⟨_, rfl, h8, r8, rfl, oh, or⟩
      have a1 := oh.one
      have a2 := or.one
      have o1 := oh.o
      have o2 := or.o
      have z7 : w.heap.size ≤ w4.heap.size := FR
      (repeat' first
    | ((with_reducible refine at_row ?_); refine row1_a fun _ _ _ _ _ _ _ => ?_)
    | with_reducible first | (first | apply alloc_k | apply row_k); intro _ _ _ _ _ _ | (first | apply fork | apply forkp) <;> intro _ | refine forke (fun _ => ?_) fun _ _ => ?_ | refine tail_k fun _ _ _ => ?_ | refine ext_k fun _ _ _ => ?_ | refine need_a ?_ | refine st_agg KR rfl ON fun _ _ _ _ => ?_ | refine wpd_q_a ?_
    | simp (maxDischargeDepth := 3) only [↓X, ↓Y, ↓Q, S1, ↓reduceIte, Nat.reduceEqDiff, Nat.reduceAdd, Int.reduceLT, Int.reduceLE, Int.reduceNeg, Int.reduceBEq, Int.reduceBNe, Int.reduceEq, Nat.reduceLeDiff, Nat.reduceMul, Nat.reduceLT, *]
    | simp (singlePass := true) (maxDischargeDepth := 99) only [*, S2, Nat.reduceLT])
      exact ⟨_, rfl, _, _, rfl, (o1.1 _ FR).more z7, (o2.1 _ FR).more z7⟩
theorem driftEff4 {b1 : Nat} (hB : B ≤ w.heap.size) (hx0 : WorldR w B hv rv x) (hl1 : x.hosts.length ≤ 1000000) (hl2 : x.replicas.length ≤ 1000000) (h1 : Blk w b1 tEff1 effC1) (hk : d.kind = 4) :
    CallsV Try.prog 35 #[.agg #[hv, rv], driftV d, .pointer (some ⟨b1, 0, none⟩)] w fun v w' => Ext w w' ∧ ∃ u, v = .tuple #[u, intV (oneE x d)] ∧ OwnW w.heap.size u w' (oneR x d) := by
  have hn : Now w := trivial
  have hx : Ext w w := Ext.refl w
  have hx' := hx0.sk hB
  have hX := hx'.2.2.2.2
  have hl1 : Hid _ := hl1
  have hl2 : Hid _ := hl2
  have k1 := h1.bk
  have hcal : callable Try.prog 36 = true := by kernel_rfl
  have hk3 : ¬ d.kind = 3 := by omega
  have e1 : oneE x d = hostE x d.host (decide ((stAt x d.host).firmware = d.was)) := by rw [oneE, if_neg hk3, if_pos hk]
  have e2 : oneR x d = hostW x d.host (decide ((stAt x d.host).firmware = d.was)) ⟨(stAt x d.host).phase, d.is⟩ := by rw [oneR, oneW, if_neg hk3, if_pos hk, hostW, e1]
  rw [e1, e2]
  clear e1 e2 hk hk3
  (refine callsV_of Try.func35 rfl KR KR ?_; rw [Try.results35])
  (repeat' first
    | ((with_reducible refine at_row ?_); refine row1_a fun _ _ _ _ _ _ _ => ?_)
    | with_reducible first | (first | apply alloc_k | apply row_k); intro _ _ _ _ _ _ | (first | apply fork | apply forkp) <;> intro _ | refine forke (fun _ => ?_) fun _ _ => ?_ | refine tail_k fun _ _ _ => ?_ | refine ext_k fun _ _ _ => ?_ | refine need_a ?_ | refine st_agg KR rfl ON fun _ _ _ _ => ?_ | refine wpd_q_a ?_
    | simp (maxDischargeDepth := 3) only [↓X, ↓Y, ↓Q, S1, ↓reduceIte, Nat.reduceEqDiff, Nat.reduceAdd, Int.reduceLT, Int.reduceLE, Int.reduceNeg, Int.reduceBEq, Int.reduceBNe, Int.reduceEq, Nat.reduceLeDiff, Nat.reduceMul, Nat.reduceLT, *, driftV, driftC, effC1]
    | simp (singlePass := true) (maxDischargeDepth := 99) only [*, S2, Nat.reduceLT, driftV, driftC, effC1])
  rename_i b2 w2 n2 k2 s2 q2 b3 w3 n3 k3 s3 q3 b4 w4 n4 k4 s4 q4
  have K3 := k3.2.1 w4 FR
  refine call_k (driftHost (B := B) (d := d) (okf := fun st => decide (st.firmware = d.was)) (nw := fun st => ⟨st.phase, d.is⟩) (caps := [.pointer (some ⟨b3, 0, none⟩)]) FR (hX _ FR) hl1.out hl2.out hcal fun b w' hxb hbb hblk => driftEff41 hblk (K3.ext hxb)) ?_
  rintro _ w8 n8 s8 ⟨_, rfl, h8, r8, rfl, oh, or⟩
  have a1 := oh.one
  have a2 := or.one
  have o1 := oh.o
  have o2 := or.o
  have z7 : w.heap.size ≤ w4.heap.size := FR
  (repeat' first
    | ((with_reducible refine at_row ?_); refine row1_a fun _ _ _ _ _ _ _ => ?_)
    | with_reducible first | (first | apply alloc_k | apply row_k); intro _ _ _ _ _ _ | (first | apply fork | apply forkp) <;> intro _ | refine forke (fun _ => ?_) fun _ _ => ?_ | refine tail_k fun _ _ _ => ?_ | refine ext_k fun _ _ _ => ?_ | refine need_a ?_ | refine st_agg KR rfl ON fun _ _ _ _ => ?_ | refine wpd_q_a ?_
    | simp (maxDischargeDepth := 3) only [↓X, ↓Y, ↓Q, S1, ↓reduceIte, Nat.reduceEqDiff, Nat.reduceAdd, Int.reduceLT, Int.reduceLE, Int.reduceNeg, Int.reduceBEq, Int.reduceBNe, Int.reduceEq, Nat.reduceLeDiff, Nat.reduceMul, Nat.reduceLT, *]
    | simp (singlePass := true) (maxDischargeDepth := 99) only [*, S2, Nat.reduceLT])
  exact ⟨_, rfl, _, _, rfl, (o1.1 _ FR).more z7, (o2.1 _ FR).more z7⟩
end
end Go.Proofs.Ytmcdgepfhpakiaa
