/- The layer drift: effects. -/
import Derived.Test.YtmcdgepfhpakiaaGreatDrift1
import Derived.Test.YtmcdgepfhpakiaaGreatMapI
import Derived.Test.YtmcdgepfhpakiaaGreatSet13
import Derived.Test.YtmcdgepfhpakiaaGreatStart13b
import Derived.Test.YtmcdgepfhpakiaaGreatPure30
import Derived.Test.YtmcdgepfhpakiaaGreatCut
namespace Go.Proofs.YtmcdgepfhpakiaaGreat
set_option linter.unusedSimpArgs false
set_option linter.unusedVariables false
open Go Go.RowKit
set_option maxRecDepth 100000
set_option linter.unusedSectionVars false
set_option maxHeartbeats 2000000
/-- The four effects; those of a host, and those of a replica, share a function. -/
def effM (b1 b3 : Nat) : List (Int × Value) :=
  [(3, .func (.func 65) #[] #[.pointer (some ⟨b1, 0, none⟩)]), (4, .func (.func 67) #[] #[.pointer (some ⟨b1, 0, none⟩)]),
    (1, .func (.func 69) #[] #[.pointer (some ⟨b3, 0, none⟩)]), (2, .func (.func 70) #[] #[.pointer (some ⟨b3, 0, none⟩)])]
def effC1 : List Value := [.func (.func 63) #[] #[]]
def effC3 : List Value := [.func (.func 64) #[] #[]]
abbrev tEff1 : TypeId := 116
abbrev tEff3 : TypeId := 117
theorem kind_under : Tryz.prog.underlying 62 = some (.int .u8) := by kernel_rfl
theorem eff_under : Tryz.prog.underlying 91 = some (.map 62 89) := by kernel_rfl
section
variable {w : World}
theorem driftEffects : CallsV Tryz.prog 39 #[] w fun r w' => Ext w w' ∧ ∃ bm b1 b3, r = .map (some bm) ∧ MapB w' bm .u8 (effM b1 b3) ∧ Blk w' b1 tEff1 effC1 ∧ Blk w' b3 tEff3 effC3 ∧ w.heap.size ≤ b1 ∧ w.heap.size ≤ b3 := by
  have hn : Now w := trivial
  have hx : Ext w w := Ext.refl w
  (refine callsV_of Tryz.func39 rfl KR KR ?_; rw [Tryz.results39])
  (repeat' first
    | ((with_reducible refine at_row ?_); refine row1_a fun _ _ _ _ _ _ _ => ?_)
    | with_reducible first | (first | apply alloc_k | apply row_k); intro _ _ _ _ _ _ | (first | apply fork | apply forkp) <;> intro _ | refine forke (fun _ => ?_) fun _ _ => ?_ | refine tail_k fun _ _ _ => ?_ | refine ext_k fun _ _ _ => ?_ | refine need_a ?_ | refine st_agg KR rfl ON fun _ _ _ _ => ?_ | refine wpd_q_a ?_
    | simp (maxDischargeDepth := 3) only [↓X, ↓Y, ↓Q, S1, ↓reduceIte, Nat.reduceEqDiff, Nat.reduceAdd, Int.reduceLT, Int.reduceLE, Int.reduceNeg, Int.reduceBEq, Int.reduceBNe, Int.reduceEq, Nat.reduceLeDiff, Nat.reduceMul, Nat.reduceLT, *]
    | simp (singlePass := true) (maxDischargeDepth := 99) only [*, S2, Nat.reduceLT])
  rename_i b1 w1 n1 k1 s1 q1
  refine st_one (i := 0) KR (by simp) rfl fun w2 n2 k2 s2 => ?_
  simp only [List.set_cons_zero] at k2
  (repeat' first
    | ((with_reducible refine at_row ?_); refine row1_a fun _ _ _ _ _ _ _ => ?_)
    | with_reducible first | (first | apply alloc_k | apply row_k); intro _ _ _ _ _ _ | (first | apply fork | apply forkp) <;> intro _ | refine forke (fun _ => ?_) fun _ _ => ?_ | refine tail_k fun _ _ _ => ?_ | refine ext_k fun _ _ _ => ?_ | refine need_a ?_ | refine st_agg KR rfl ON fun _ _ _ _ => ?_ | refine wpd_q_a ?_
    | simp (maxDischargeDepth := 3) only [↓X, ↓Y, ↓Q, S1, ↓reduceIte, Nat.reduceEqDiff, Nat.reduceAdd, Int.reduceLT, Int.reduceLE, Int.reduceNeg, Int.reduceBEq, Int.reduceBNe, Int.reduceEq, Nat.reduceLeDiff, Nat.reduceMul, Nat.reduceLT, *]
    | simp (singlePass := true) (maxDischargeDepth := 99) only [*, S2, Nat.reduceLT])
  rename_i b3 w3 n3 k3 s3 q3
  refine st_one (i := 0) KR (by simp) rfl fun w4 n4 k4 s4 => ?_
  simp only [List.set_cons_zero] at k4
  (repeat' first
    | ((with_reducible refine at_row ?_); refine row1_a fun _ _ _ _ _ _ _ => ?_)
    | with_reducible first | (first | apply alloc_k | apply row_k); intro _ _ _ _ _ _ | (first | apply fork | apply forkp) <;> intro _ | refine forke (fun _ => ?_) fun _ _ => ?_ | refine tail_k fun _ _ _ => ?_ | refine ext_k fun _ _ _ => ?_ | refine need_a ?_ | refine st_agg KR rfl ON fun _ _ _ _ => ?_ | refine wpd_q_a ?_
    | simp (maxDischargeDepth := 3) only [↓X, ↓Y, ↓Q, S1, ↓reduceIte, Nat.reduceEqDiff, Nat.reduceAdd, Int.reduceLT, Int.reduceLE, Int.reduceNeg, Int.reduceBEq, Int.reduceBNe, Int.reduceEq, Nat.reduceLeDiff, Nat.reduceMul, Nat.reduceLT, *]
    | simp (singlePass := true) (maxDischargeDepth := 99) only [*, S2, Nat.reduceLT])
  refine mkmap_k .u8 fun bm w5 n5 m5 s5 q5 l5 => ?_
  (repeat' first
    | ((with_reducible refine at_row ?_); refine row1_a fun _ _ _ _ _ _ _ => ?_)
    | with_reducible first | (first | apply alloc_k | apply row_k); intro _ _ _ _ _ _ | (first | apply fork | apply forkp) <;> intro _ | refine forke (fun _ => ?_) fun _ _ => ?_ | refine tail_k fun _ _ _ => ?_ | refine ext_k fun _ _ _ => ?_ | refine need_a ?_ | refine st_agg KR rfl ON fun _ _ _ _ => ?_ | refine wpd_q_a ?_
    | simp (maxDischargeDepth := 3) only [↓X, ↓Y, ↓Q, S1, ↓reduceIte, Nat.reduceEqDiff, Nat.reduceAdd, Int.reduceLT, Int.reduceLE, Int.reduceNeg, Int.reduceBEq, Int.reduceBNe, Int.reduceEq, Nat.reduceLeDiff, Nat.reduceMul, Nat.reduceLT, *]
    | simp (singlePass := true) (maxDischargeDepth := 99) only [*, S2, Nat.reduceLT])
  refine insert_k rfl rfl rfl m5 kind_under eff_under rfl fun w6 n6 m6 s6 => ?_
  (repeat' first
    | ((with_reducible refine at_row ?_); refine row1_a fun _ _ _ _ _ _ _ => ?_)
    | with_reducible first | (first | apply alloc_k | apply row_k); intro _ _ _ _ _ _ | (first | apply fork | apply forkp) <;> intro _ | refine forke (fun _ => ?_) fun _ _ => ?_ | refine tail_k fun _ _ _ => ?_ | refine ext_k fun _ _ _ => ?_ | refine need_a ?_ | refine st_agg KR rfl ON fun _ _ _ _ => ?_ | refine wpd_q_a ?_
    | simp (maxDischargeDepth := 3) only [↓X, ↓Y, ↓Q, S1, ↓reduceIte, Nat.reduceEqDiff, Nat.reduceAdd, Int.reduceLT, Int.reduceLE, Int.reduceNeg, Int.reduceBEq, Int.reduceBNe, Int.reduceEq, Nat.reduceLeDiff, Nat.reduceMul, Nat.reduceLT, *]
    | simp (singlePass := true) (maxDischargeDepth := 99) only [*, S2, Nat.reduceLT])
  refine insert_k rfl rfl rfl m6 kind_under eff_under rfl fun w7 n7 m7 s7 => ?_
  (repeat' first
    | ((with_reducible refine at_row ?_); refine row1_a fun _ _ _ _ _ _ _ => ?_)
    | with_reducible first | (first | apply alloc_k | apply row_k); intro _ _ _ _ _ _ | (first | apply fork | apply forkp) <;> intro _ | refine forke (fun _ => ?_) fun _ _ => ?_ | refine tail_k fun _ _ _ => ?_ | refine ext_k fun _ _ _ => ?_ | refine need_a ?_ | refine st_agg KR rfl ON fun _ _ _ _ => ?_ | refine wpd_q_a ?_
    | simp (maxDischargeDepth := 3) only [↓X, ↓Y, ↓Q, S1, ↓reduceIte, Nat.reduceEqDiff, Nat.reduceAdd, Int.reduceLT, Int.reduceLE, Int.reduceNeg, Int.reduceBEq, Int.reduceBNe, Int.reduceEq, Nat.reduceLeDiff, Nat.reduceMul, Nat.reduceLT, *]
    | simp (singlePass := true) (maxDischargeDepth := 99) only [*, S2, Nat.reduceLT])
  refine insert_k rfl rfl rfl m7 kind_under eff_under rfl fun w8 n8 m8 s8 => ?_
  (repeat' first
    | ((with_reducible refine at_row ?_); refine row1_a fun _ _ _ _ _ _ _ => ?_)
    | with_reducible first | (first | apply alloc_k | apply row_k); intro _ _ _ _ _ _ | (first | apply fork | apply forkp) <;> intro _ | refine forke (fun _ => ?_) fun _ _ => ?_ | refine tail_k fun _ _ _ => ?_ | refine ext_k fun _ _ _ => ?_ | refine need_a ?_ | refine st_agg KR rfl ON fun _ _ _ _ => ?_ | refine wpd_q_a ?_
    | simp (maxDischargeDepth := 3) only [↓X, ↓Y, ↓Q, S1, ↓reduceIte, Nat.reduceEqDiff, Nat.reduceAdd, Int.reduceLT, Int.reduceLE, Int.reduceNeg, Int.reduceBEq, Int.reduceBNe, Int.reduceEq, Nat.reduceLeDiff, Nat.reduceMul, Nat.reduceLT, *]
    | simp (singlePass := true) (maxDischargeDepth := 99) only [*, S2, Nat.reduceLT])
  refine insert_k rfl rfl rfl m8 kind_under eff_under rfl fun w9 n9 m9 s9 => ?_
  (repeat' first
    | ((with_reducible refine at_row ?_); refine row1_a fun _ _ _ _ _ _ _ => ?_)
    | with_reducible first | (first | apply alloc_k | apply row_k); intro _ _ _ _ _ _ | (first | apply fork | apply forkp) <;> intro _ | refine forke (fun _ => ?_) fun _ _ => ?_ | refine tail_k fun _ _ _ => ?_ | refine ext_k fun _ _ _ => ?_ | refine need_a ?_ | refine st_agg KR rfl ON fun _ _ _ _ => ?_ | refine wpd_q_a ?_
    | simp (maxDischargeDepth := 3) only [↓X, ↓Y, ↓Q, S1, ↓reduceIte, Nat.reduceEqDiff, Nat.reduceAdd, Int.reduceLT, Int.reduceLE, Int.reduceNeg, Int.reduceBEq, Int.reduceBNe, Int.reduceEq, Nat.reduceLeDiff, Nat.reduceMul, Nat.reduceLT, *]
    | simp (singlePass := true) (maxDischargeDepth := 99) only [*, S2, Nat.reduceLT])
  exact ⟨bm, b1, b3, rfl, m9, k2.2.1 _ FR, k4.2.1 _ FR, FR, FR⟩
end
end Go.Proofs.YtmcdgepfhpakiaaGreat
/- The layer drift: what an effect does to a host. -/
namespace Go.Proofs.YtmcdgepfhpakiaaGreat
set_option linter.unusedSimpArgs false
set_option linter.unusedVariables false
open Go Go.RowKit
set_option maxRecDepth 100000
set_option linter.unusedSectionVars false
set_option maxHeartbeats 2000000
def hostW (x : WorldD) (h : Int) (ok : Bool) (s : StateD) : WorldD := if hostE x h ok = 0 then ⟨x.hosts.set h.toNat s, x.replicas⟩ else noW
section
variable {w : World} {B : Nat} {hv rv : Value} {x : WorldD}
theorem driftHost {cl : Nat} {caps : List Value} {d : DriftD} {okf : StateD → Bool} {nw : StateD → StateD} (hB : B ≤ w.heap.size) (hx0 : WorldR w B hv rv x) (hl1 : x.hosts.length ≤ 1000000) (hl2 : x.replicas.length ≤ 1000000) (hc : callable Tryz.prog cl = true)
    (hfn : ∀ b w', Ext w w' → w.heap.size ≤ b → Blk w' b 76 (stateC (stAt x d.host)) → CallsV Tryz.prog cl (.pointer (some ⟨b, 0, none⟩) :: caps).toArray w' fun v w'' => v = .bool (okf (stAt x d.host)) ∧ Blk w'' b 76 (stateC (nw (stAt x d.host))) ∧ Chg w' w'' b) :
    CallsV Tryz.prog 63 #[.agg #[hv, rv], driftV d, .func (.func cl) #[] caps.toArray] w fun v w' => Ext w w' ∧ ∃ u, v = .tuple #[u, intV (hostE x d.host (okf (stAt x d.host)))] ∧ OwnW w.heap.size u w' (hostW x d.host (okf (stAt x d.host)) (nw (stAt x d.host))) := by
  have hn : Now w := trivial
  have hx : Ext w w := Ext.refl w
  have hx' := hx0.sk hB
  have hX := hx'.2.2.2.2
  have hl1 : Hid _ := hl1
  have hl2 : Hid _ := hl2
  by_cases hr : d.host < 0 ∨ (x.hosts.length : Int) ≤ d.host
  · have h1 : hostE x d.host (okf (stAt x d.host)) = 1 := by rw [hostE, if_pos hr]
    have h2 : hostW x d.host (okf (stAt x d.host)) (nw (stAt x d.host)) = noW := by rw [hostW, h1, if_neg (by decide)]
    rw [h1, h2]
    clear h1 h2
    (refine callsV_of Tryz.func63 rfl KR KR ?_; rw [Tryz.results63])
    (repeat' first
    | ((with_reducible refine at_row ?_); refine row1_a fun _ _ _ _ _ _ _ => ?_)
    | with_reducible first | (first | apply alloc_k | apply row_k); intro _ _ _ _ _ _ | (first | apply fork | apply forkp) <;> intro _ | refine forke (fun _ => ?_) fun _ _ => ?_ | refine tail_k fun _ _ _ => ?_ | refine ext_k fun _ _ _ => ?_ | refine need_a ?_ | refine st_agg KR rfl ON fun _ _ _ _ => ?_ | refine wpd_q_a ?_
    | simp (maxDischargeDepth := 3) only [↓X, ↓Y, ↓Q, S1, ↓reduceIte, Nat.reduceEqDiff, Nat.reduceAdd, Int.reduceLT, Int.reduceLE, Int.reduceNeg, Int.reduceBEq, Int.reduceBNe, Int.reduceEq, Nat.reduceLeDiff, Nat.reduceMul, Nat.reduceLT, *, driftV, driftC]
    | simp (singlePass := true) (maxDischargeDepth := 99) only [*, S2, Nat.reduceLT, driftV, driftC])
    · exact ⟨_, rfl, OwnW.none _ _⟩
    · exact ⟨_, rfl, OwnW.none _ _⟩
    · exfalso; omega
  · obtain ⟨kd, dh, ds, dw, di⟩ := d
    simp only at hr ⊢
    obtain ⟨i, rfl⟩ : ∃ i : Nat, dh = (i : Int) := ⟨dh.toNat, by omega⟩
    have hi : i < x.hosts.length := by omega
    have hi' : ¬ x.hosts.length ≤ i := by omega
    have hst : stAt x i = x.hosts[i] := by simp [stAt, List.getD_eq_getElem?_getD, hi]
    simp only [hst] at hfn
    rw [hst]
    have hE : hostE x i (okf x.hosts[i]) = if okf x.hosts[i] = true then setE x i else 8 := by
      rw [hostE, if_neg hr]
      unfold setE setOk
      simp [idx, hi]
    have hW : okf x.hosts[i] = true → hostW x i (okf x.hosts[i]) (nw x.hosts[i]) = setW x i (nw x.hosts[i]) := fun h => by
      rw [hostW, hE, if_pos h]
      unfold setW setE
      by_cases h9 : setOk x i = true
      · simp [h9]
      · simp [h9]
    have hW2 : okf x.hosts[i] = false → hostW x i (okf x.hosts[i]) (nw x.hosts[i]) = noW := fun h => by
      rw [hostW, hE, h]; simp
    rw [hE]
    clear hr hst hE
    (refine callsV_of Tryz.func63 rfl KR KR ?_; rw [Tryz.results63])
    (repeat' first
    | ((with_reducible refine at_row ?_); refine row1_a fun _ _ _ _ _ _ _ => ?_)
    | with_reducible first | (first | apply alloc_k | apply row_k); intro _ _ _ _ _ _ | (first | apply fork | apply forkp) <;> intro _ | refine forke (fun _ => ?_) fun _ _ => ?_ | refine tail_k fun _ _ _ => ?_ | refine ext_k fun _ _ _ => ?_ | refine need_a ?_ | refine st_agg KR rfl ON fun _ _ _ _ => ?_ | refine wpd_q_a ?_
    | simp (maxDischargeDepth := 3) only [↓X, ↓Y, ↓Q, S1, ↓reduceIte, Nat.reduceEqDiff, Nat.reduceAdd, Int.reduceLT, Int.reduceLE, Int.reduceNeg, Int.reduceBEq, Int.reduceBNe, Int.reduceEq, Nat.reduceLeDiff, Nat.reduceMul, Nat.reduceLT, *, driftV, driftC, stateV]
    | simp (singlePass := true) (maxDischargeDepth := 99) only [*, S2, Nat.reduceLT, driftV, driftC, stateV])
    rename_i b2 w2 n2 k2 s2 q2 b3 w3 n3 k3 s3 q3 b4 w4 n4 k4 s4 q4 b5 w5 n5 k5 s5 q5 w6 n6 k6 s6
    refine CallsV.mono (hfn b5 w6 FR FR (k6.2.1 _ FR)) ?_
    rintro _ w7 ⟨rfl, hk7, hc7⟩
    have k7 := hk7.bk
    have s7 := hc7.sc
    have n7 : Now w7 := trivial
    have q5' : w.heap.size ≤ b5 := FR
    clear hfn hc hk7 hc7 k5 k6
    generalize nw x.hosts[i] = st at *
    cases hok : okf x.hosts[i]
    · rw [hok] at hW2
      rw [hW2 rfl]
      clear hW hW2
      (repeat' first
    | ((with_reducible refine at_row ?_); refine row1_a fun _ _ _ _ _ _ _ => ?_)
    | with_reducible first | (first | apply alloc_k | apply row_k); intro _ _ _ _ _ _ | (first | apply fork | apply forkp) <;> intro _ | refine forke (fun _ => ?_) fun _ _ => ?_ | refine tail_k fun _ _ _ => ?_ | refine ext_k fun _ _ _ => ?_ | refine need_a ?_ | refine st_agg KR rfl ON fun _ _ _ _ => ?_ | refine wpd_q_a ?_
    | simp (maxDischargeDepth := 3) only [↓X, ↓Y, ↓Q, S1, ↓reduceIte, Nat.reduceEqDiff, Nat.reduceAdd, Int.reduceLT, Int.reduceLE, Int.reduceNeg, Int.reduceBEq, Int.reduceBNe, Int.reduceEq, Nat.reduceLeDiff, Nat.reduceMul, Nat.reduceLT, *, driftV, driftC, stateC]
    | simp (singlePass := true) (maxDischargeDepth := 99) only [*, S2, Nat.reduceLT, driftV, driftC, stateC])
      exact ⟨_, rfl, OwnW.none _ _⟩
    · rw [hok] at hW
      rw [hW rfl, if_pos rfl]
      clear hW hW2
      (repeat' first
    | ((with_reducible refine at_row ?_); refine row1_a fun _ _ _ _ _ _ _ => ?_)
    | with_reducible first | (first | apply alloc_k | apply row_k); intro _ _ _ _ _ _ | (first | apply fork | apply forkp) <;> intro _ | refine forke (fun _ => ?_) fun _ _ => ?_ | refine tail_k fun _ _ _ => ?_ | refine ext_k fun _ _ _ => ?_ | refine need_a ?_ | refine st_agg KR rfl ON fun _ _ _ _ => ?_ | refine wpd_q_a ?_
    | simp (maxDischargeDepth := 3) only [↓X, ↓Y, ↓Q, S1, ↓reduceIte, Nat.reduceEqDiff, Nat.reduceAdd, Int.reduceLT, Int.reduceLE, Int.reduceNeg, Int.reduceBEq, Int.reduceBNe, Int.reduceEq, Nat.reduceLeDiff, Nat.reduceMul, Nat.reduceLT, *, driftV, driftC, stateC]
    | simp (singlePass := true) (maxDischargeDepth := 99) only [*, S2, Nat.reduceLT, driftV, driftC, stateC])
      refine call_k (worldSet (host := i) (h := st) (B := B) FR (hX _ FR) hl1.out hl2.out) ?_
      rintro _ w8 n8 s8 ⟨_, rfl, h8, r8, rfl, oh, or⟩
      have a1 := oh.one
      have a2 := or.one
      have o1 := oh.o
      have o2 := or.o
      have z7 : w.heap.size ≤ w7.heap.size := FR
      (repeat' first
    | ((with_reducible refine at_row ?_); refine row1_a fun _ _ _ _ _ _ _ => ?_)
    | with_reducible first | (first | apply alloc_k | apply row_k); intro _ _ _ _ _ _ | (first | apply fork | apply forkp) <;> intro _ | refine forke (fun _ => ?_) fun _ _ => ?_ | refine tail_k fun _ _ _ => ?_ | refine ext_k fun _ _ _ => ?_ | refine need_a ?_ | refine st_agg KR rfl ON fun _ _ _ _ => ?_ | refine wpd_q_a ?_
    | simp (maxDischargeDepth := 3) only [↓X, ↓Y, ↓Q, S1, ↓reduceIte, Nat.reduceEqDiff, Nat.reduceAdd, Int.reduceLT, Int.reduceLE, Int.reduceNeg, Int.reduceBEq, Int.reduceBNe, Int.reduceEq, Nat.reduceLeDiff, Nat.reduceMul, Nat.reduceLT, *]
    | simp (singlePass := true) (maxDischargeDepth := 99) only [*, S2, Nat.reduceLT])
      exact ⟨_, rfl, _, _, rfl, (o1.1 _ FR).more z7, (o2.1 _ FR).more z7⟩
theorem driftEff31 {b b4 : Nat} {p f : Int} {d : DriftD} (hb : Blk w b 76 [.int .u8 p, intV f]) (hd : Blk w b4 64 (driftC d)) (hp : 0 ≤ p ∧ p ≤ 255) (hi : 0 ≤ d.is ∧ d.is ≤ 255) : CallsV Tryz.prog 66 #[.pointer (some ⟨b, 0, none⟩), .pointer (some ⟨b4, 0, none⟩)] w fun v w' => v = .bool (decide (p = d.was)) ∧ Blk w' b 76 (stateC ⟨d.is, f⟩) ∧ Chg w w' b := by
  have hne : ¬ b4 = b := hd.ne hb (by decide)
  have hp' : IntKind.i64.wrap p = p := by rw [wrap_i64_id] <;> omega
  have hi' : IntKind.u8.wrap d.is = d.is := by rw [IntKind.wrap_u8]; omega
  have hn : Now w := trivial
  have hx : Ext w w := Ext.refl w
  have kb := hb.bk
  have kd := hd.bk
  have cb : Cg b w w := Chg.refl' w b
  (refine callsV_of Tryz.func66 rfl KR KR ?_; rw [Tryz.results66])
  (repeat' first
    | ((with_reducible refine at_row ?_); refine row1_a fun _ _ _ _ _ _ _ => ?_)
    | with_reducible first | (first | apply alloc_k | apply row_k); intro _ _ _ _ _ _ | (first | apply fork | apply forkp) <;> intro _ | refine forke (fun _ => ?_) fun _ _ => ?_ | refine tail_k fun _ _ _ => ?_ | refine ext_k fun _ _ _ => ?_ | refine need_a ?_ | refine st_agg KR rfl ON fun _ _ _ _ => ?_ | refine wpd_q_a ?_
    | simp (maxDischargeDepth := 3) only [↓X, ↓Y, ↓Q, S1, ↓reduceIte, Nat.reduceEqDiff, Nat.reduceAdd, Int.reduceLT, Int.reduceLE, Int.reduceNeg, Int.reduceBEq, Int.reduceBNe, Int.reduceEq, Nat.reduceLeDiff, Nat.reduceMul, Nat.reduceLT, *, driftC]
    | simp (singlePass := true) (maxDischargeDepth := 99) only [*, S2, Nat.reduceLT, driftC])
  refine st_one (i := 0) KR (by simp) rfl fun w2 n2 k2 s2 => ?_
  simp only [List.set_cons_zero] at k2
  have c2 : Cg b w w2 := FR
  (repeat' first
    | ((with_reducible refine at_row ?_); refine row1_a fun _ _ _ _ _ _ _ => ?_)
    | with_reducible first | (first | apply alloc_k | apply row_k); intro _ _ _ _ _ _ | (first | apply fork | apply forkp) <;> intro _ | refine forke (fun _ => ?_) fun _ _ => ?_ | refine tail_k fun _ _ _ => ?_ | refine ext_k fun _ _ _ => ?_ | refine need_a ?_ | refine st_agg KR rfl ON fun _ _ _ _ => ?_ | refine wpd_q_a ?_
    | simp (maxDischargeDepth := 3) only [↓X, ↓Y, ↓Q, S1, ↓reduceIte, Nat.reduceEqDiff, Nat.reduceAdd, Int.reduceLT, Int.reduceLE, Int.reduceNeg, Int.reduceBEq, Int.reduceBNe, Int.reduceEq, Nat.reduceLeDiff, Nat.reduceMul, Nat.reduceLT, *, driftC]
    | simp (singlePass := true) (maxDischargeDepth := 99) only [*, S2, Nat.reduceLT, driftC])
  exact ⟨congrArg Value.bool (by rw [Bool.eq_iff_iff]; simp), k2.2.1 _ FR, (show Cg b w _ by first | exact c2 | exact FR)⟩
theorem driftEff41 {b b4 : Nat} {p f : Int} {d : DriftD} (hb : Blk w b 76 [.int .u8 p, intV f]) (hd : Blk w b4 64 (driftC d)) : CallsV Tryz.prog 68 #[.pointer (some ⟨b, 0, none⟩), .pointer (some ⟨b4, 0, none⟩)] w fun v w' => v = .bool (decide (f = d.was)) ∧ Blk w' b 76 (stateC ⟨p, d.is⟩) ∧ Chg w w' b := by
  have hne : ¬ b4 = b := hd.ne hb (by decide)
  have hn : Now w := trivial
  have hx : Ext w w := Ext.refl w
  have kb := hb.bk
  have kd := hd.bk
  have cb : Cg b w w := Chg.refl' w b
  (refine callsV_of Tryz.func68 rfl KR KR ?_; rw [Tryz.results68])
  (repeat' first
    | ((with_reducible refine at_row ?_); refine row1_a fun _ _ _ _ _ _ _ => ?_)
    | with_reducible first | (first | apply alloc_k | apply row_k); intro _ _ _ _ _ _ | (first | apply fork | apply forkp) <;> intro _ | refine forke (fun _ => ?_) fun _ _ => ?_ | refine tail_k fun _ _ _ => ?_ | refine ext_k fun _ _ _ => ?_ | refine need_a ?_ | refine st_agg KR rfl ON fun _ _ _ _ => ?_ | refine wpd_q_a ?_
    | simp (maxDischargeDepth := 3) only [↓X, ↓Y, ↓Q, S1, ↓reduceIte, Nat.reduceEqDiff, Nat.reduceAdd, Int.reduceLT, Int.reduceLE, Int.reduceNeg, Int.reduceBEq, Int.reduceBNe, Int.reduceEq, Nat.reduceLeDiff, Nat.reduceMul, Nat.reduceLT, *, driftC]
    | simp (singlePass := true) (maxDischargeDepth := 99) only [*, S2, Nat.reduceLT, driftC])
  refine st_one (i := 1) KR (by simp) rfl fun w2 n2 k2 s2 => ?_
  simp only [List.set_cons_zero, List.set_cons_succ] at k2
  have c2 : Cg b w w2 := FR
  (repeat' first
    | ((with_reducible refine at_row ?_); refine row1_a fun _ _ _ _ _ _ _ => ?_)
    | with_reducible first | (first | apply alloc_k | apply row_k); intro _ _ _ _ _ _ | (first | apply fork | apply forkp) <;> intro _ | refine forke (fun _ => ?_) fun _ _ => ?_ | refine tail_k fun _ _ _ => ?_ | refine ext_k fun _ _ _ => ?_ | refine need_a ?_ | refine st_agg KR rfl ON fun _ _ _ _ => ?_ | refine wpd_q_a ?_
    | simp (maxDischargeDepth := 3) only [↓X, ↓Y, ↓Q, S1, ↓reduceIte, Nat.reduceEqDiff, Nat.reduceAdd, Int.reduceLT, Int.reduceLE, Int.reduceNeg, Int.reduceBEq, Int.reduceBNe, Int.reduceEq, Nat.reduceLeDiff, Nat.reduceMul, Nat.reduceLT, *, driftC]
    | simp (singlePass := true) (maxDischargeDepth := 99) only [*, S2, Nat.reduceLT, driftC])
  exact ⟨congrArg Value.bool (by rw [Bool.eq_iff_iff]; simp), k2.2.1 _ FR, (show Cg b w _ by first | exact c2 | exact FR)⟩
end
/-- What one difference leaves. -/
def oneR (x : WorldD) (d : DriftD) : WorldD := if oneE x d = 0 then oneW x d else noW
section
variable {w : World} {B : Nat} {hv rv : Value} {x : WorldD} {d : DriftD}
theorem stAt_phase (hp : ∀ s ∈ x.hosts, 0 ≤ s.phase ∧ s.phase ≤ 255) (h : Int) : 0 ≤ (stAt x h).phase ∧ (stAt x h).phase ≤ 255 := by
  unfold stAt
  rw [List.getD_eq_getElem?_getD]
  cases h9 : x.hosts[h.toNat]? with
  | none => simp
  | some s => exact hp s (List.mem_of_getElem? h9)
theorem driftEff3 {b1 : Nat} (hB : B ≤ w.heap.size) (hx0 : WorldR w B hv rv x) (hl1 : x.hosts.length ≤ 1000000) (hl2 : x.replicas.length ≤ 1000000) (hp : ∀ s ∈ x.hosts, 0 ≤ s.phase ∧ s.phase ≤ 255) (h1 : Blk w b1 tEff1 effC1) (hk : d.kind = 3) :
    CallsV Tryz.prog 65 #[.agg #[hv, rv], driftV d, .pointer (some ⟨b1, 0, none⟩)] w fun v w' => Ext w w' ∧ ∃ u, v = .tuple #[u, intV (oneE x d)] ∧ OwnW w.heap.size u w' (oneR x d) := by
  have hn : Now w := trivial
  have hx : Ext w w := Ext.refl w
  have hx' := hx0.sk hB
  have hX := hx'.2.2.2.2
  have hl1 : Hid _ := hl1
  have hl2 : Hid _ := hl2
  have k1 := h1.bk
  have hcal : callable Tryz.prog 66 = true := by kernel_rfl
  by_cases hr : d.is < 0 ∨ 255 < d.is
  · have e1 : oneE x d = 1 := by rw [oneE, if_pos hk, if_pos hr]
    have e2 : oneR x d = noW := by rw [oneR, e1, if_neg (by decide)]
    rw [e1, e2]
    clear e1 e2 hk
    (refine callsV_of Tryz.func65 rfl KR KR ?_; rw [Tryz.results65])
    (repeat' first
    | ((with_reducible refine at_row ?_); refine row1_a fun _ _ _ _ _ _ _ => ?_)
    | with_reducible first | (first | apply alloc_k | apply row_k); intro _ _ _ _ _ _ | (first | apply fork | apply forkp) <;> intro _ | refine forke (fun _ => ?_) fun _ _ => ?_ | refine tail_k fun _ _ _ => ?_ | refine ext_k fun _ _ _ => ?_ | refine need_a ?_ | refine st_agg KR rfl ON fun _ _ _ _ => ?_ | refine wpd_q_a ?_
    | simp (maxDischargeDepth := 3) only [↓X, ↓Y, ↓Q, S1, ↓reduceIte, Nat.reduceEqDiff, Nat.reduceAdd, Int.reduceLT, Int.reduceLE, Int.reduceNeg, Int.reduceBEq, Int.reduceBNe, Int.reduceEq, Nat.reduceLeDiff, Nat.reduceMul, Nat.reduceLT, *, driftV, driftC, effC1]
    | simp (singlePass := true) (maxDischargeDepth := 99) only [*, S2, Nat.reduceLT, driftV, driftC, effC1])
    · exact ⟨_, rfl, OwnW.none _ _⟩
    · exact ⟨_, rfl, OwnW.none _ _⟩
    · exfalso; omega
  · have e1 : oneE x d = hostE x d.host (decide ((stAt x d.host).phase = d.was)) := by rw [oneE, if_pos hk, if_neg hr]
    have e2 : oneR x d = hostW x d.host (decide ((stAt x d.host).phase = d.was)) ⟨d.is, (stAt x d.host).firmware⟩ := by rw [oneR, oneW, if_pos hk, hostW, e1]
    rw [e1, e2]
    clear e1 e2 hk
    have hi : 0 ≤ d.is ∧ d.is ≤ 255 := by omega
    have hi : Hid _ := hi
    (refine callsV_of Tryz.func65 rfl KR KR ?_; rw [Tryz.results65])
    (repeat' first
    | ((with_reducible refine at_row ?_); refine row1_a fun _ _ _ _ _ _ _ => ?_)
    | with_reducible first | (first | apply alloc_k | apply row_k); intro _ _ _ _ _ _ | (first | apply fork | apply forkp) <;> intro _ | refine forke (fun _ => ?_) fun _ _ => ?_ | refine tail_k fun _ _ _ => ?_ | refine ext_k fun _ _ _ => ?_ | refine need_a ?_ | refine st_agg KR rfl ON fun _ _ _ _ => ?_ | refine wpd_q_a ?_
    | simp (maxDischargeDepth := 3) only [↓X, ↓Y, ↓Q, S1, ↓reduceIte, Nat.reduceEqDiff, Nat.reduceAdd, Int.reduceLT, Int.reduceLE, Int.reduceNeg, Int.reduceBEq, Int.reduceBNe, Int.reduceEq, Nat.reduceLeDiff, Nat.reduceMul, Nat.reduceLT, *, driftV, driftC, effC1]
    | simp (singlePass := true) (maxDischargeDepth := 99) only [*, S2, Nat.reduceLT, driftV, driftC, effC1])
    · exfalso; have := hi.out; omega
    · exfalso; have := hi.out; omega
    · rename_i b2 w2 n2 k2 s2 q2 b3 w3 n3 k3 s3 q3 b4 w4 n4 k4 s4 q4 _ _
      have K3 := k3.2.1 w4 FR
      refine call_k (driftHost (B := B) (d := d) (okf := fun st => decide (st.phase = d.was)) (nw := fun st => ⟨d.is, st.firmware⟩) (caps := [.pointer (some ⟨b3, 0, none⟩)]) FR (hX _ FR) hl1.out hl2.out hcal fun b w' hxb hbb hblk => driftEff31 hblk (K3.ext hxb) (stAt_phase hp _) hi.out) ?_
      rintro _ w8 n8 s8 ⟨_, rfl, h8, r8, rfl, oh, or⟩
      have a1 := oh.one
      have a2 := or.one
      have o1 := oh.o
      have o2 := or.o
      have z7 : w.heap.size ≤ w4.heap.size := FR
      (repeat' first
    | ((with_reducible refine at_row ?_); refine row1_a fun _ _ _ _ _ _ _ => ?_)
    | with_reducible first | (first | apply alloc_k | apply row_k); intro _ _ _ _ _ _ | (first | apply fork | apply forkp) <;> intro _ | refine forke (fun _ => ?_) fun _ _ => ?_ | refine tail_k fun _ _ _ => ?_ | refine ext_k fun _ _ _ => ?_ | refine need_a ?_ | refine st_agg KR rfl ON fun _ _ _ _ => ?_ | refine wpd_q_a ?_
    | simp (maxDischargeDepth := 3) only [↓X, ↓Y, ↓Q, S1, ↓reduceIte, Nat.reduceEqDiff, Nat.reduceAdd, Int.reduceLT, Int.reduceLE, Int.reduceNeg, Int.reduceBEq, Int.reduceBNe, Int.reduceEq, Nat.reduceLeDiff, Nat.reduceMul, Nat.reduceLT, *]
    | simp (singlePass := true) (maxDischargeDepth := 99) only [*, S2, Nat.reduceLT])
      exact ⟨_, rfl, _, _, rfl, (o1.1 _ FR).more z7, (o2.1 _ FR).more z7⟩
theorem driftEff4 {b1 : Nat} (hB : B ≤ w.heap.size) (hx0 : WorldR w B hv rv x) (hl1 : x.hosts.length ≤ 1000000) (hl2 : x.replicas.length ≤ 1000000) (h1 : Blk w b1 tEff1 effC1) (hk : d.kind = 4) :
    CallsV Tryz.prog 67 #[.agg #[hv, rv], driftV d, .pointer (some ⟨b1, 0, none⟩)] w fun v w' => Ext w w' ∧ ∃ u, v = .tuple #[u, intV (oneE x d)] ∧ OwnW w.heap.size u w' (oneR x d) := by
  have hn : Now w := trivial
  have hx : Ext w w := Ext.refl w
  have hx' := hx0.sk hB
  have hX := hx'.2.2.2.2
  have hl1 : Hid _ := hl1
  have hl2 : Hid _ := hl2
  have k1 := h1.bk
  have hcal : callable Tryz.prog 68 = true := by kernel_rfl
  have hk3 : ¬ d.kind = 3 := by omega
  have e1 : oneE x d = hostE x d.host (decide ((stAt x d.host).firmware = d.was)) := by rw [oneE, if_neg hk3, if_pos hk]
  have e2 : oneR x d = hostW x d.host (decide ((stAt x d.host).firmware = d.was)) ⟨(stAt x d.host).phase, d.is⟩ := by rw [oneR, oneW, if_neg hk3, if_pos hk, hostW, e1]
  rw [e1, e2]
  clear e1 e2 hk hk3
  (refine callsV_of Tryz.func67 rfl KR KR ?_; rw [Tryz.results67])
  (repeat' first
    | ((with_reducible refine at_row ?_); refine row1_a fun _ _ _ _ _ _ _ => ?_)
    | with_reducible first | (first | apply alloc_k | apply row_k); intro _ _ _ _ _ _ | (first | apply fork | apply forkp) <;> intro _ | refine forke (fun _ => ?_) fun _ _ => ?_ | refine tail_k fun _ _ _ => ?_ | refine ext_k fun _ _ _ => ?_ | refine need_a ?_ | refine st_agg KR rfl ON fun _ _ _ _ => ?_ | refine wpd_q_a ?_
    | simp (maxDischargeDepth := 3) only [↓X, ↓Y, ↓Q, S1, ↓reduceIte, Nat.reduceEqDiff, Nat.reduceAdd, Int.reduceLT, Int.reduceLE, Int.reduceNeg, Int.reduceBEq, Int.reduceBNe, Int.reduceEq, Nat.reduceLeDiff, Nat.reduceMul, Nat.reduceLT, *, driftV, driftC, effC1]
    | simp (singlePass := true) (maxDischargeDepth := 99) only [*, S2, Nat.reduceLT, driftV, driftC, effC1])
  rename_i b2 w2 n2 k2 s2 q2 b3 w3 n3 k3 s3 q3 b4 w4 n4 k4 s4 q4
  have K3 := k3.2.1 w4 FR
  refine call_k (driftHost (B := B) (d := d) (okf := fun st => decide (st.firmware = d.was)) (nw := fun st => ⟨st.phase, d.is⟩) (caps := [.pointer (some ⟨b3, 0, none⟩)]) FR (hX _ FR) hl1.out hl2.out hcal fun b w' hxb hbb hblk => driftEff41 hblk (K3.ext hxb)) ?_
  rintro _ w8 n8 s8 ⟨_, rfl, h8, r8, rfl, oh, or⟩
  have a1 := oh.one
  have a2 := or.one
  have o1 := oh.o
  have o2 := or.o
  have z7 : w.heap.size ≤ w4.heap.size := FR
  (repeat' first
    | ((with_reducible refine at_row ?_); refine row1_a fun _ _ _ _ _ _ _ => ?_)
    | with_reducible first | (first | apply alloc_k | apply row_k); intro _ _ _ _ _ _ | (first | apply fork | apply forkp) <;> intro _ | refine forke (fun _ => ?_) fun _ _ => ?_ | refine tail_k fun _ _ _ => ?_ | refine ext_k fun _ _ _ => ?_ | refine need_a ?_ | refine st_agg KR rfl ON fun _ _ _ _ => ?_ | refine wpd_q_a ?_
    | simp (maxDischargeDepth := 3) only [↓X, ↓Y, ↓Q, S1, ↓reduceIte, Nat.reduceEqDiff, Nat.reduceAdd, Int.reduceLT, Int.reduceLE, Int.reduceNeg, Int.reduceBEq, Int.reduceBNe, Int.reduceEq, Nat.reduceLeDiff, Nat.reduceMul, Nat.reduceLT, *]
    | simp (singlePass := true) (maxDischargeDepth := 99) only [*, S2, Nat.reduceLT])
  exact ⟨_, rfl, _, _, rfl, (o1.1 _ FR).more z7, (o2.1 _ FR).more z7⟩
end
end Go.Proofs.YtmcdgepfhpakiaaGreat
/- The layer drift: what an effect does to a replica. -/
namespace Go.Proofs.YtmcdgepfhpakiaaGreat
set_option linter.unusedSimpArgs false
set_option linter.unusedVariables false
open Go Go.RowKit
set_option maxRecDepth 100000
set_option linter.unusedSectionVars false
set_option maxHeartbeats 2000000
section
variable {w : World} {B : Nat} {hv rv : Value} {x : WorldD} {d : DriftD}
theorem driftEff2 : Ret Tryz.prog 64 #[driftV d] w (replicaV ⟨d.service, d.host⟩) := by
  have hn : Now w := trivial
  have hx : Ext w w := Ext.refl w
  (refine callsV_of Tryz.func64 rfl KR KR ?_; rw [Tryz.results64])
  (repeat' first
    | ((with_reducible refine at_row ?_); refine row1_a fun _ _ _ _ _ _ _ => ?_)
    | with_reducible first | (first | apply alloc_k | apply row_k); intro _ _ _ _ _ _ | (first | apply fork | apply forkp) <;> intro _ | refine forke (fun _ => ?_) fun _ _ => ?_ | refine tail_k fun _ _ _ => ?_ | refine ext_k fun _ _ _ => ?_ | refine need_a ?_ | refine st_agg KR rfl ON fun _ _ _ _ => ?_ | refine wpd_q_a ?_
    | simp (maxDischargeDepth := 3) only [↓X, ↓Y, ↓Q, S1, ↓reduceIte, Nat.reduceEqDiff, Nat.reduceAdd, Int.reduceLT, Int.reduceLE, Int.reduceNeg, Int.reduceBEq, Int.reduceBNe, Int.reduceEq, Nat.reduceLeDiff, Nat.reduceMul, Nat.reduceLT, *, driftV, driftC, replicaV]
    | simp (singlePass := true) (maxDischargeDepth := 99) only [*, S2, Nat.reduceLT, driftV, driftC, replicaV])
theorem driftEff5 {b3 : Nat} (hB : B ≤ w.heap.size) (hx0 : WorldR w B hv rv x) (hl1 : x.hosts.length ≤ 1000000) (hl2 : x.replicas.length ≤ 1000000) (h3 : Blk w b3 tEff3 effC3) (hk : d.kind = 1) :
    CallsV Tryz.prog 69 #[.agg #[hv, rv], driftV d, .pointer (some ⟨b3, 0, none⟩)] w fun v w' => Ext w w' ∧ ∃ u, v = .tuple #[u, intV (oneE x d)] ∧ OwnW w.heap.size u w' (oneR x d) := by
  have hn : Now w := trivial
  have hx : Ext w w := Ext.refl w
  have hx' := hx0.sk hB
  have hX := hx'.2.2.2.2
  have hl1 : Hid _ := hl1
  have hl2 : Hid _ := hl2
  have k3 := h3.bk
  have hcal : callable Tryz.prog 64 = true := by kernel_rfl
  have hk3 : ¬ d.kind = 3 := by omega
  have hk4 : ¬ d.kind = 4 := by omega
  have e1 : oneE x d = stopE x ⟨d.service, d.host⟩ := by simp [oneE, hk]
  have e2 : oneR x d = stopW x ⟨d.service, d.host⟩ := by
    unfold oneR
    rw [e1]
    unfold stopW
    by_cases h : stopE x ⟨d.service, d.host⟩ = 0 <;> simp [h, oneW, hk, stopW]
  rw [e1, e2]
  clear e1 e2 hk hk3 hk4
  have hrep : ∀ w', Ret Tryz.prog 64 #[driftV d] w' (replicaV ⟨d.service, d.host⟩) := fun _ => driftEff2
  have hE : Hid (stopE x ⟨d.service, d.host⟩ = stopE x ⟨d.service, d.host⟩) := rfl
  generalize hE0 : stopE x ⟨d.service, d.host⟩ = E at hE
  generalize hW0 : stopW x ⟨d.service, d.host⟩ = W
  replace hE0 : Hid _ := hE0
  replace hW0 : Hid _ := hW0
  clear hE
  (refine callsV_of Tryz.func69 rfl KR KR ?_; rw [Tryz.results69])
  (repeat' first
    | ((with_reducible refine wpd_at 1 ?_); refine wpd_hold ?_)
    | ((with_reducible refine at_row ?_); refine row1_a fun _ _ _ _ _ _ _ => ?_)
    | with_reducible first | (first | apply alloc_k | apply row_k); intro _ _ _ _ _ _ | (first | apply fork | apply forkp) <;> intro _ | refine forke (fun _ => ?_) fun _ _ => ?_ | refine tail_k fun _ _ _ => ?_ | refine ext_k fun _ _ _ => ?_ | refine need_a ?_ | refine st_agg KR rfl ON fun _ _ _ _ => ?_ | refine wpd_q_a ?_
    | simp (maxDischargeDepth := 3) only [↓X, ↓Y, ↓Q, S1, ↓reduceIte, Nat.reduceEqDiff, Nat.reduceAdd, Int.reduceLT, Int.reduceLE, Int.reduceNeg, Int.reduceBEq, Int.reduceBNe, Int.reduceEq, Nat.reduceLeDiff, Nat.reduceMul, Nat.reduceLT, *, driftV, driftC, effC3]
    | simp (singlePass := true) (maxDischargeDepth := 99) only [*, S2, Nat.reduceLT, driftV, driftC, effC3])
  rename_i b2 w2 n2 k2 s2 q2 b4 w4 n4 k4 s4 q4 b5 w5 n5 k5 s5 q5
  have z5 : w.heap.size ≤ w5.heap.size := FR
  have r5 := Ext.refl w5
  unfold wpdH
  refine wpd_rel 7 (fun iI v w9 => match iI with
    | 0 => v = .agg #[hv, rv]
    | 1 => v = .func (.func 64) #[] #[]
    | 2 => v = driftV d
    | 3 => v = replicaV ⟨d.service, d.host⟩
    | 4 => ∃ u0, v = .tuple #[u0, intV E] ∧ OwnW w5.heap.size u0 w9 W
    | 5 => OwnW w5.heap.size v w9 W
    | 6 => v = intV E
    | _ => False) KR KR KR ?_ ?_ ?_
  · intro iI v w1 w2 hR hx9
    match iI, hR with
    | 0, h => exact h
    | 1, h => exact h
    | 2, h => exact h
    | 3, h => exact h
    | 4, h => exact (let ⟨u0, e, o⟩ := h; ⟨u0, e, o.ext hx9⟩)
    | 5, h => exact OwnW.ext h hx9
    | 6, h => exact h
  · intro iI oO hi ho gF w9 hx9 hdep hag
    have s9 := hx9.st
    have n9 : Now w9 := trivial
    have r9 := Ext.refl w9
    have z9 := hx9.size
    rcases iI with _|_|_|_|_|_|_|iI
    · have e := Option.some.inj ho
      subst e
      have a3 := hag.at 3 KR
      simp only [S5, ↓reduceIte, Nat.reduceEqDiff, initF, *] at a3
      clear hag hdep ho
      refine relStep_off rfl ?_
      (repeat' first
    | ((with_reducible refine at_row ?_); refine row1_a fun _ _ _ _ _ _ _ => ?_)
    | with_reducible first | (first | apply alloc_k | apply row_k); intro _ _ _ _ _ _ | (first | apply fork | apply forkp) <;> intro _ | refine forke (fun _ => ?_) fun _ _ => ?_ | refine tail_k fun _ _ _ => ?_ | refine ext_k fun _ _ _ => ?_ | refine need_a ?_ | refine st_agg KR rfl ON fun _ _ _ _ => ?_ | refine wpd_q_a ?_
    | ((with_reducible refine at_f 64 ?_); refine ret_k (hrep _) fun _ _ _ => ?_)
    | simp (maxDischargeDepth := 3) only [↓X, ↓Y, ↓Q, S1, ↓reduceIte, Nat.reduceEqDiff, Nat.reduceAdd, Int.reduceLT, Int.reduceLE, Int.reduceNeg, Int.reduceBEq, Int.reduceBNe, Int.reduceEq, Nat.reduceLeDiff, Nat.reduceMul, Nat.reduceLT, *, driftV, driftC, effC3]
    | simp (singlePass := true) (maxDischargeDepth := 99) only [*, S2, Nat.reduceLT, driftV, driftC, effC3])
    · have e := Option.some.inj ho
      subst e
      have a2 := hag.at 2 KR
      simp only [S5, ↓reduceIte, Nat.reduceEqDiff, initF, *] at a2
      clear hag hdep ho
      refine relStep_off rfl ?_
      (repeat' first
    | ((with_reducible refine at_row ?_); refine row1_a fun _ _ _ _ _ _ _ => ?_)
    | with_reducible first | (first | apply alloc_k | apply row_k); intro _ _ _ _ _ _ | (first | apply fork | apply forkp) <;> intro _ | refine forke (fun _ => ?_) fun _ _ => ?_ | refine tail_k fun _ _ _ => ?_ | refine ext_k fun _ _ _ => ?_ | refine need_a ?_ | refine st_agg KR rfl ON fun _ _ _ _ => ?_ | refine wpd_q_a ?_
    | ((with_reducible refine at_f 64 ?_); refine ret_k (hrep _) fun _ _ _ => ?_)
    | simp (maxDischargeDepth := 3) only [↓X, ↓Y, ↓Q, S1, ↓reduceIte, Nat.reduceEqDiff, Nat.reduceAdd, Int.reduceLT, Int.reduceLE, Int.reduceNeg, Int.reduceBEq, Int.reduceBNe, Int.reduceEq, Nat.reduceLeDiff, Nat.reduceMul, Nat.reduceLT, *, driftV, driftC, effC3]
    | simp (singlePass := true) (maxDischargeDepth := 99) only [*, S2, Nat.reduceLT, driftV, driftC, effC3])
    · have e := Option.some.inj ho
      subst e
      have a4 := hag.at 4 KR
      simp only [S5, ↓reduceIte, Nat.reduceEqDiff, initF, *] at a4
      clear hag hdep ho
      refine relStep_off rfl ?_
      (repeat' first
    | ((with_reducible refine at_row ?_); refine row1_a fun _ _ _ _ _ _ _ => ?_)
    | with_reducible first | (first | apply alloc_k | apply row_k); intro _ _ _ _ _ _ | (first | apply fork | apply forkp) <;> intro _ | refine forke (fun _ => ?_) fun _ _ => ?_ | refine tail_k fun _ _ _ => ?_ | refine ext_k fun _ _ _ => ?_ | refine need_a ?_ | refine st_agg KR rfl ON fun _ _ _ _ => ?_ | refine wpd_q_a ?_
    | ((with_reducible refine at_f 64 ?_); refine ret_k (hrep _) fun _ _ _ => ?_)
    | simp (maxDischargeDepth := 3) only [↓X, ↓Y, ↓Q, S1, ↓reduceIte, Nat.reduceEqDiff, Nat.reduceAdd, Int.reduceLT, Int.reduceLE, Int.reduceNeg, Int.reduceBEq, Int.reduceBNe, Int.reduceEq, Nat.reduceLeDiff, Nat.reduceMul, Nat.reduceLT, *, driftV, driftC, effC3]
    | simp (singlePass := true) (maxDischargeDepth := 99) only [*, S2, Nat.reduceLT, driftV, driftC, effC3])
    · have e := Option.some.inj ho
      subst e
      have d1 : (gF 8) = .func (.func 64) #[] #[] := hdep ⟨1, .data⟩ (by simp) rfl _ _ rfl rfl
      have d2 : (gF 9) = driftV d := hdep ⟨2, .data⟩ (by simp) rfl _ _ rfl rfl
      clear hag hdep ho
      refine relStep_off rfl ?_
      (repeat' first
    | ((with_reducible refine at_row ?_); refine row1_a fun _ _ _ _ _ _ _ => ?_)
    | with_reducible first | (first | apply alloc_k | apply row_k); intro _ _ _ _ _ _ | (first | apply fork | apply forkp) <;> intro _ | refine forke (fun _ => ?_) fun _ _ => ?_ | refine tail_k fun _ _ _ => ?_ | refine ext_k fun _ _ _ => ?_ | refine need_a ?_ | refine st_agg KR rfl ON fun _ _ _ _ => ?_ | refine wpd_q_a ?_
    | ((with_reducible refine at_f 64 ?_); refine ret_k (hrep _) fun _ _ _ => ?_)
    | simp (maxDischargeDepth := 3) only [↓X, ↓Y, ↓Q, S1, ↓reduceIte, Nat.reduceEqDiff, Nat.reduceAdd, Int.reduceLT, Int.reduceLE, Int.reduceNeg, Int.reduceBEq, Int.reduceBNe, Int.reduceEq, Nat.reduceLeDiff, Nat.reduceMul, Nat.reduceLT, *, driftV, driftC, effC3]
    | simp (singlePass := true) (maxDischargeDepth := 99) only [*, S2, Nat.reduceLT, driftV, driftC, effC3])
    · have e := Option.some.inj ho
      subst e
      have d0 : (gF 7) = .agg #[hv, rv] := hdep ⟨0, .data⟩ (by simp) rfl _ _ rfl rfl
      have d3 : (gF 10) = replicaV ⟨d.service, d.host⟩ := hdep ⟨3, .data⟩ (by simp) rfl _ _ rfl rfl
      clear hag hdep ho
      refine relStep_off rfl ?_
      (repeat' first
    | ((with_reducible refine at_row ?_); refine row1_a fun _ _ _ _ _ _ _ => ?_)
    | with_reducible first | (first | apply alloc_k | apply row_k); intro _ _ _ _ _ _ | (first | apply fork | apply forkp) <;> intro _ | refine forke (fun _ => ?_) fun _ _ => ?_ | refine tail_k fun _ _ _ => ?_ | refine ext_k fun _ _ _ => ?_ | refine need_a ?_ | refine st_agg KR rfl ON fun _ _ _ _ => ?_ | refine wpd_q_a ?_
    | ((with_reducible refine at_f 64 ?_); refine ret_k (hrep _) fun _ _ _ => ?_)
    | simp (maxDischargeDepth := 3) only [↓X, ↓Y, ↓Q, S1, ↓reduceIte, Nat.reduceEqDiff, Nat.reduceAdd, Int.reduceLT, Int.reduceLE, Int.reduceNeg, Int.reduceBEq, Int.reduceBNe, Int.reduceEq, Nat.reduceLeDiff, Nat.reduceMul, Nat.reduceLT, *, driftV, driftC, effC3]
    | simp (singlePass := true) (maxDischargeDepth := 99) only [*, S2, Nat.reduceLT, driftV, driftC, effC3])
      refine CallsV.mono (worldStop (r := ⟨d.service, d.host⟩) (B := B) FR (hX _ FR) hl1.out hl2.out) fun v w10 hh => ⟨hh.1, ?_⟩
      obtain ⟨_, u0, rfl, ho⟩ := hh
      exact ⟨u0, by rw [hE0.out]; rfl, by rw [← hW0.out]; exact ho.more z9⟩
    · have e := Option.some.inj ho
      subst e
      have d4 : ∃ u0, (gF 11) = .tuple #[u0, intV E] ∧ OwnW w5.heap.size u0 w9 W := hdep ⟨4, .data⟩ (by simp) rfl _ _ rfl rfl
      obtain ⟨u3, e3, o3⟩ := d4
      clear hag hdep ho
      refine relStep_off rfl ?_
      (repeat' first
    | ((with_reducible refine at_row ?_); refine row1_a fun _ _ _ _ _ _ _ => ?_)
    | with_reducible first | (first | apply alloc_k | apply row_k); intro _ _ _ _ _ _ | (first | apply fork | apply forkp) <;> intro _ | refine forke (fun _ => ?_) fun _ _ => ?_ | refine tail_k fun _ _ _ => ?_ | refine ext_k fun _ _ _ => ?_ | refine need_a ?_ | refine st_agg KR rfl ON fun _ _ _ _ => ?_ | refine wpd_q_a ?_
    | ((with_reducible refine at_f 64 ?_); refine ret_k (hrep _) fun _ _ _ => ?_)
    | simp (maxDischargeDepth := 3) only [↓X, ↓Y, ↓Q, S1, ↓reduceIte, Nat.reduceEqDiff, Nat.reduceAdd, Int.reduceLT, Int.reduceLE, Int.reduceNeg, Int.reduceBEq, Int.reduceBNe, Int.reduceEq, Nat.reduceLeDiff, Nat.reduceMul, Nat.reduceLT, *, driftV, driftC, effC3]
    | simp (singlePass := true) (maxDischargeDepth := 99) only [*, S2, Nat.reduceLT, driftV, driftC, effC3])
      all_goals exact o3
    · have e := Option.some.inj ho
      subst e
      have d4 : ∃ u0, (gF 11) = .tuple #[u0, intV E] ∧ OwnW w5.heap.size u0 w9 W := hdep ⟨4, .data⟩ (by simp) rfl _ _ rfl rfl
      obtain ⟨u3, e3, o3⟩ := d4
      clear hag hdep ho
      refine relStep_off rfl ?_
      (repeat' first
    | ((with_reducible refine at_row ?_); refine row1_a fun _ _ _ _ _ _ _ => ?_)
    | with_reducible first | (first | apply alloc_k | apply row_k); intro _ _ _ _ _ _ | (first | apply fork | apply forkp) <;> intro _ | refine forke (fun _ => ?_) fun _ _ => ?_ | refine tail_k fun _ _ _ => ?_ | refine ext_k fun _ _ _ => ?_ | refine need_a ?_ | refine st_agg KR rfl ON fun _ _ _ _ => ?_ | refine wpd_q_a ?_
    | ((with_reducible refine at_f 64 ?_); refine ret_k (hrep _) fun _ _ _ => ?_)
    | simp (maxDischargeDepth := 3) only [↓X, ↓Y, ↓Q, S1, ↓reduceIte, Nat.reduceEqDiff, Nat.reduceAdd, Int.reduceLT, Int.reduceLE, Int.reduceNeg, Int.reduceBEq, Int.reduceBNe, Int.reduceEq, Nat.reduceLeDiff, Nat.reduceMul, Nat.reduceLT, *, driftV, driftC, effC3]
    | simp (singlePass := true) (maxDischargeDepth := 99) only [*, S2, Nat.reduceLT, driftV, driftC, effC3])
    · omega
  · intro g9 w9 hx9 hR hag
    have s9 := hx9.st
    have n9 : Now w9 := trivial
    have r9 := Ext.refl w9
    have z9 := hx9.size
    have d5 : OwnW w5.heap.size (g9 12) w9 W := hR 5 _ _ (by decide) rfl rfl
    obtain ⟨h6, r6, e6, oh6, or6⟩ := d5
    have H6 := oh6.o
    have R6 := or6.o
    have a1 := oh6.one
    have a2 := or6.one
    clear oh6 or6
    have d6 : (g9 13) = intV E := hR 6 _ _ (by decide) rfl rfl
    have a5 := hag.at 5 KR
    have a36 := hag.at 36 KR
    simp only [S5, ↓reduceIte, Nat.reduceEqDiff, initF, *] at a5 a36
    clear hag hR
    simp only [List.drop_succ_cons, List.drop_zero]
    (repeat' first
    | ((with_reducible refine at_row ?_); refine row1_a fun _ _ _ _ _ _ _ => ?_)
    | with_reducible first | (first | apply alloc_k | apply row_k); intro _ _ _ _ _ _ | (first | apply fork | apply forkp) <;> intro _ | refine forke (fun _ => ?_) fun _ _ => ?_ | refine tail_k fun _ _ _ => ?_ | refine ext_k fun _ _ _ => ?_ | refine need_a ?_ | refine st_agg KR rfl ON fun _ _ _ _ => ?_ | refine wpd_q_a ?_
    | simp (maxDischargeDepth := 3) only [↓X, ↓Y, ↓Q, S1, ↓reduceIte, Nat.reduceEqDiff, Nat.reduceAdd, Int.reduceLT, Int.reduceLE, Int.reduceNeg, Int.reduceBEq, Int.reduceBNe, Int.reduceEq, Nat.reduceLeDiff, Nat.reduceMul, Nat.reduceLT, *]
    | simp (singlePass := true) (maxDischargeDepth := 99) only [*, S2, Nat.reduceLT])
    exact ⟨_, rfl, _, _, rfl, (H6.1 _ FR).more z5, (R6.1 _ FR).more z5⟩
theorem driftEff6 {b3 : Nat} (hB : B ≤ w.heap.size) (hx0 : WorldR w B hv rv x) (hl1 : x.hosts.length ≤ 1000000) (hl2 : x.replicas.length ≤ 1000000) (h3 : Blk w b3 tEff3 effC3) (hk : d.kind = 2) :
    CallsV Tryz.prog 70 #[.agg #[hv, rv], driftV d, .pointer (some ⟨b3, 0, none⟩)] w fun v w' => Ext w w' ∧ ∃ u, v = .tuple #[u, intV (oneE x d)] ∧ OwnW w.heap.size u w' (oneR x d) := by
  have hn : Now w := trivial
  have hx : Ext w w := Ext.refl w
  have hx' := hx0.sk hB
  have hX := hx'.2.2.2.2
  have hl1 : Hid _ := hl1
  have hl2 : Hid _ := hl2
  have k3 := h3.bk
  have hcal : callable Tryz.prog 64 = true := by kernel_rfl
  have hk3 : ¬ d.kind = 3 := by omega
  have hk4 : ¬ d.kind = 4 := by omega
  have e1 : oneE x d = startE x ⟨d.service, d.host⟩ := by simp [oneE, hk]
  have e2 : oneR x d = startW x ⟨d.service, d.host⟩ := by
    unfold oneR
    rw [e1]
    unfold startW
    by_cases h : startE x ⟨d.service, d.host⟩ = 0 <;> simp [h, oneW, hk, startW]
  rw [e1, e2]
  clear e1 e2 hk hk3 hk4
  have hrep : ∀ w', Ret Tryz.prog 64 #[driftV d] w' (replicaV ⟨d.service, d.host⟩) := fun _ => driftEff2
  have hE : Hid (startE x ⟨d.service, d.host⟩ = startE x ⟨d.service, d.host⟩) := rfl
  generalize hE0 : startE x ⟨d.service, d.host⟩ = E at hE
  generalize hW0 : startW x ⟨d.service, d.host⟩ = W
  replace hE0 : Hid _ := hE0
  replace hW0 : Hid _ := hW0
  clear hE
  (refine callsV_of Tryz.func70 rfl KR KR ?_; rw [Tryz.results70])
  (repeat' first
    | ((with_reducible refine wpd_at 1 ?_); refine wpd_hold ?_)
    | ((with_reducible refine at_row ?_); refine row1_a fun _ _ _ _ _ _ _ => ?_)
    | with_reducible first | (first | apply alloc_k | apply row_k); intro _ _ _ _ _ _ | (first | apply fork | apply forkp) <;> intro _ | refine forke (fun _ => ?_) fun _ _ => ?_ | refine tail_k fun _ _ _ => ?_ | refine ext_k fun _ _ _ => ?_ | refine need_a ?_ | refine st_agg KR rfl ON fun _ _ _ _ => ?_ | refine wpd_q_a ?_
    | simp (maxDischargeDepth := 3) only [↓X, ↓Y, ↓Q, S1, ↓reduceIte, Nat.reduceEqDiff, Nat.reduceAdd, Int.reduceLT, Int.reduceLE, Int.reduceNeg, Int.reduceBEq, Int.reduceBNe, Int.reduceEq, Nat.reduceLeDiff, Nat.reduceMul, Nat.reduceLT, *, driftV, driftC, effC3]
    | simp (singlePass := true) (maxDischargeDepth := 99) only [*, S2, Nat.reduceLT, driftV, driftC, effC3])
  rename_i b2 w2 n2 k2 s2 q2 b4 w4 n4 k4 s4 q4 b5 w5 n5 k5 s5 q5
  have z5 : w.heap.size ≤ w5.heap.size := FR
  have r5 := Ext.refl w5
  unfold wpdH
  refine wpd_rel 7 (fun iI v w9 => match iI with
    | 0 => v = .agg #[hv, rv]
    | 1 => v = .func (.func 64) #[] #[]
    | 2 => v = driftV d
    | 3 => v = replicaV ⟨d.service, d.host⟩
    | 4 => ∃ u0, v = .tuple #[u0, intV E] ∧ OwnW w5.heap.size u0 w9 W
    | 5 => OwnW w5.heap.size v w9 W
    | 6 => v = intV E
    | _ => False) KR KR KR ?_ ?_ ?_
  · intro iI v w1 w2 hR hx9
    match iI, hR with
    | 0, h => exact h
    | 1, h => exact h
    | 2, h => exact h
    | 3, h => exact h
    | 4, h => exact (let ⟨u0, e, o⟩ := h; ⟨u0, e, o.ext hx9⟩)
    | 5, h => exact OwnW.ext h hx9
    | 6, h => exact h
  · intro iI oO hi ho gF w9 hx9 hdep hag
    have s9 := hx9.st
    have n9 : Now w9 := trivial
    have r9 := Ext.refl w9
    have z9 := hx9.size
    rcases iI with _|_|_|_|_|_|_|iI
    · have e := Option.some.inj ho
      subst e
      have a3 := hag.at 3 KR
      simp only [S5, ↓reduceIte, Nat.reduceEqDiff, initF, *] at a3
      clear hag hdep ho
      refine relStep_off rfl ?_
      (repeat' first
    | ((with_reducible refine at_row ?_); refine row1_a fun _ _ _ _ _ _ _ => ?_)
    | with_reducible first | (first | apply alloc_k | apply row_k); intro _ _ _ _ _ _ | (first | apply fork | apply forkp) <;> intro _ | refine forke (fun _ => ?_) fun _ _ => ?_ | refine tail_k fun _ _ _ => ?_ | refine ext_k fun _ _ _ => ?_ | refine need_a ?_ | refine st_agg KR rfl ON fun _ _ _ _ => ?_ | refine wpd_q_a ?_
    | ((with_reducible refine at_f 64 ?_); refine ret_k (hrep _) fun _ _ _ => ?_)
    | simp (maxDischargeDepth := 3) only [↓X, ↓Y, ↓Q, S1, ↓reduceIte, Nat.reduceEqDiff, Nat.reduceAdd, Int.reduceLT, Int.reduceLE, Int.reduceNeg, Int.reduceBEq, Int.reduceBNe, Int.reduceEq, Nat.reduceLeDiff, Nat.reduceMul, Nat.reduceLT, *, driftV, driftC, effC3]
    | simp (singlePass := true) (maxDischargeDepth := 99) only [*, S2, Nat.reduceLT, driftV, driftC, effC3])
    · have e := Option.some.inj ho
      subst e
      have a2 := hag.at 2 KR
      simp only [S5, ↓reduceIte, Nat.reduceEqDiff, initF, *] at a2
      clear hag hdep ho
      refine relStep_off rfl ?_
      (repeat' first
    | ((with_reducible refine at_row ?_); refine row1_a fun _ _ _ _ _ _ _ => ?_)
    | with_reducible first | (first | apply alloc_k | apply row_k); intro _ _ _ _ _ _ | (first | apply fork | apply forkp) <;> intro _ | refine forke (fun _ => ?_) fun _ _ => ?_ | refine tail_k fun _ _ _ => ?_ | refine ext_k fun _ _ _ => ?_ | refine need_a ?_ | refine st_agg KR rfl ON fun _ _ _ _ => ?_ | refine wpd_q_a ?_
    | ((with_reducible refine at_f 64 ?_); refine ret_k (hrep _) fun _ _ _ => ?_)
    | simp (maxDischargeDepth := 3) only [↓X, ↓Y, ↓Q, S1, ↓reduceIte, Nat.reduceEqDiff, Nat.reduceAdd, Int.reduceLT, Int.reduceLE, Int.reduceNeg, Int.reduceBEq, Int.reduceBNe, Int.reduceEq, Nat.reduceLeDiff, Nat.reduceMul, Nat.reduceLT, *, driftV, driftC, effC3]
    | simp (singlePass := true) (maxDischargeDepth := 99) only [*, S2, Nat.reduceLT, driftV, driftC, effC3])
    · have e := Option.some.inj ho
      subst e
      have a4 := hag.at 4 KR
      simp only [S5, ↓reduceIte, Nat.reduceEqDiff, initF, *] at a4
      clear hag hdep ho
      refine relStep_off rfl ?_
      (repeat' first
    | ((with_reducible refine at_row ?_); refine row1_a fun _ _ _ _ _ _ _ => ?_)
    | with_reducible first | (first | apply alloc_k | apply row_k); intro _ _ _ _ _ _ | (first | apply fork | apply forkp) <;> intro _ | refine forke (fun _ => ?_) fun _ _ => ?_ | refine tail_k fun _ _ _ => ?_ | refine ext_k fun _ _ _ => ?_ | refine need_a ?_ | refine st_agg KR rfl ON fun _ _ _ _ => ?_ | refine wpd_q_a ?_
    | ((with_reducible refine at_f 64 ?_); refine ret_k (hrep _) fun _ _ _ => ?_)
    | simp (maxDischargeDepth := 3) only [↓X, ↓Y, ↓Q, S1, ↓reduceIte, Nat.reduceEqDiff, Nat.reduceAdd, Int.reduceLT, Int.reduceLE, Int.reduceNeg, Int.reduceBEq, Int.reduceBNe, Int.reduceEq, Nat.reduceLeDiff, Nat.reduceMul, Nat.reduceLT, *, driftV, driftC, effC3]
    | simp (singlePass := true) (maxDischargeDepth := 99) only [*, S2, Nat.reduceLT, driftV, driftC, effC3])
    · have e := Option.some.inj ho
      subst e
      have d1 : (gF 8) = .func (.func 64) #[] #[] := hdep ⟨1, .data⟩ (by simp) rfl _ _ rfl rfl
      have d2 : (gF 9) = driftV d := hdep ⟨2, .data⟩ (by simp) rfl _ _ rfl rfl
      clear hag hdep ho
      refine relStep_off rfl ?_
      (repeat' first
    | ((with_reducible refine at_row ?_); refine row1_a fun _ _ _ _ _ _ _ => ?_)
    | with_reducible first | (first | apply alloc_k | apply row_k); intro _ _ _ _ _ _ | (first | apply fork | apply forkp) <;> intro _ | refine forke (fun _ => ?_) fun _ _ => ?_ | refine tail_k fun _ _ _ => ?_ | refine ext_k fun _ _ _ => ?_ | refine need_a ?_ | refine st_agg KR rfl ON fun _ _ _ _ => ?_ | refine wpd_q_a ?_
    | ((with_reducible refine at_f 64 ?_); refine ret_k (hrep _) fun _ _ _ => ?_)
    | simp (maxDischargeDepth := 3) only [↓X, ↓Y, ↓Q, S1, ↓reduceIte, Nat.reduceEqDiff, Nat.reduceAdd, Int.reduceLT, Int.reduceLE, Int.reduceNeg, Int.reduceBEq, Int.reduceBNe, Int.reduceEq, Nat.reduceLeDiff, Nat.reduceMul, Nat.reduceLT, *, driftV, driftC, effC3]
    | simp (singlePass := true) (maxDischargeDepth := 99) only [*, S2, Nat.reduceLT, driftV, driftC, effC3])
    · have e := Option.some.inj ho
      subst e
      have d0 : (gF 7) = .agg #[hv, rv] := hdep ⟨0, .data⟩ (by simp) rfl _ _ rfl rfl
      have d3 : (gF 10) = replicaV ⟨d.service, d.host⟩ := hdep ⟨3, .data⟩ (by simp) rfl _ _ rfl rfl
      clear hag hdep ho
      refine relStep_off rfl ?_
      (repeat' first
    | ((with_reducible refine at_row ?_); refine row1_a fun _ _ _ _ _ _ _ => ?_)
    | with_reducible first | (first | apply alloc_k | apply row_k); intro _ _ _ _ _ _ | (first | apply fork | apply forkp) <;> intro _ | refine forke (fun _ => ?_) fun _ _ => ?_ | refine tail_k fun _ _ _ => ?_ | refine ext_k fun _ _ _ => ?_ | refine need_a ?_ | refine st_agg KR rfl ON fun _ _ _ _ => ?_ | refine wpd_q_a ?_
    | ((with_reducible refine at_f 64 ?_); refine ret_k (hrep _) fun _ _ _ => ?_)
    | simp (maxDischargeDepth := 3) only [↓X, ↓Y, ↓Q, S1, ↓reduceIte, Nat.reduceEqDiff, Nat.reduceAdd, Int.reduceLT, Int.reduceLE, Int.reduceNeg, Int.reduceBEq, Int.reduceBNe, Int.reduceEq, Nat.reduceLeDiff, Nat.reduceMul, Nat.reduceLT, *, driftV, driftC, effC3]
    | simp (singlePass := true) (maxDischargeDepth := 99) only [*, S2, Nat.reduceLT, driftV, driftC, effC3])
      refine CallsV.mono (worldStart (r := ⟨d.service, d.host⟩) (B := B) FR (hX _ FR) hl1.out hl2.out) fun v w10 hh => ⟨hh.1, ?_⟩
      obtain ⟨_, u0, rfl, ho⟩ := hh
      exact ⟨u0, by rw [hE0.out]; rfl, by rw [← hW0.out]; exact ho.more z9⟩
    · have e := Option.some.inj ho
      subst e
      have d4 : ∃ u0, (gF 11) = .tuple #[u0, intV E] ∧ OwnW w5.heap.size u0 w9 W := hdep ⟨4, .data⟩ (by simp) rfl _ _ rfl rfl
      obtain ⟨u3, e3, o3⟩ := d4
      clear hag hdep ho
      refine relStep_off rfl ?_
      (repeat' first
    | ((with_reducible refine at_row ?_); refine row1_a fun _ _ _ _ _ _ _ => ?_)
    | with_reducible first | (first | apply alloc_k | apply row_k); intro _ _ _ _ _ _ | (first | apply fork | apply forkp) <;> intro _ | refine forke (fun _ => ?_) fun _ _ => ?_ | refine tail_k fun _ _ _ => ?_ | refine ext_k fun _ _ _ => ?_ | refine need_a ?_ | refine st_agg KR rfl ON fun _ _ _ _ => ?_ | refine wpd_q_a ?_
    | ((with_reducible refine at_f 64 ?_); refine ret_k (hrep _) fun _ _ _ => ?_)
    | simp (maxDischargeDepth := 3) only [↓X, ↓Y, ↓Q, S1, ↓reduceIte, Nat.reduceEqDiff, Nat.reduceAdd, Int.reduceLT, Int.reduceLE, Int.reduceNeg, Int.reduceBEq, Int.reduceBNe, Int.reduceEq, Nat.reduceLeDiff, Nat.reduceMul, Nat.reduceLT, *, driftV, driftC, effC3]
    | simp (singlePass := true) (maxDischargeDepth := 99) only [*, S2, Nat.reduceLT, driftV, driftC, effC3])
      all_goals exact o3
    · have e := Option.some.inj ho
      subst e
      have d4 : ∃ u0, (gF 11) = .tuple #[u0, intV E] ∧ OwnW w5.heap.size u0 w9 W := hdep ⟨4, .data⟩ (by simp) rfl _ _ rfl rfl
      obtain ⟨u3, e3, o3⟩ := d4
      clear hag hdep ho
      refine relStep_off rfl ?_
      (repeat' first
    | ((with_reducible refine at_row ?_); refine row1_a fun _ _ _ _ _ _ _ => ?_)
    | with_reducible first | (first | apply alloc_k | apply row_k); intro _ _ _ _ _ _ | (first | apply fork | apply forkp) <;> intro _ | refine forke (fun _ => ?_) fun _ _ => ?_ | refine tail_k fun _ _ _ => ?_ | refine ext_k fun _ _ _ => ?_ | refine need_a ?_ | refine st_agg KR rfl ON fun _ _ _ _ => ?_ | refine wpd_q_a ?_
    | ((with_reducible refine at_f 64 ?_); refine ret_k (hrep _) fun _ _ _ => ?_)
    | simp (maxDischargeDepth := 3) only [↓X, ↓Y, ↓Q, S1, ↓reduceIte, Nat.reduceEqDiff, Nat.reduceAdd, Int.reduceLT, Int.reduceLE, Int.reduceNeg, Int.reduceBEq, Int.reduceBNe, Int.reduceEq, Nat.reduceLeDiff, Nat.reduceMul, Nat.reduceLT, *, driftV, driftC, effC3]
    | simp (singlePass := true) (maxDischargeDepth := 99) only [*, S2, Nat.reduceLT, driftV, driftC, effC3])
    · omega
  · intro g9 w9 hx9 hR hag
    have s9 := hx9.st
    have n9 : Now w9 := trivial
    have r9 := Ext.refl w9
    have z9 := hx9.size
    have d5 : OwnW w5.heap.size (g9 12) w9 W := hR 5 _ _ (by decide) rfl rfl
    obtain ⟨h6, r6, e6, oh6, or6⟩ := d5
    have H6 := oh6.o
    have R6 := or6.o
    have a1 := oh6.one
    have a2 := or6.one
    clear oh6 or6
    have d6 : (g9 13) = intV E := hR 6 _ _ (by decide) rfl rfl
    have a5 := hag.at 5 KR
    have a36 := hag.at 36 KR
    simp only [S5, ↓reduceIte, Nat.reduceEqDiff, initF, *] at a5 a36
    clear hag hR
    simp only [List.drop_succ_cons, List.drop_zero]
    (repeat' first
    | ((with_reducible refine at_row ?_); refine row1_a fun _ _ _ _ _ _ _ => ?_)
    | with_reducible first | (first | apply alloc_k | apply row_k); intro _ _ _ _ _ _ | (first | apply fork | apply forkp) <;> intro _ | refine forke (fun _ => ?_) fun _ _ => ?_ | refine tail_k fun _ _ _ => ?_ | refine ext_k fun _ _ _ => ?_ | refine need_a ?_ | refine st_agg KR rfl ON fun _ _ _ _ => ?_ | refine wpd_q_a ?_
    | simp (maxDischargeDepth := 3) only [↓X, ↓Y, ↓Q, S1, ↓reduceIte, Nat.reduceEqDiff, Nat.reduceAdd, Int.reduceLT, Int.reduceLE, Int.reduceNeg, Int.reduceBEq, Int.reduceBNe, Int.reduceEq, Nat.reduceLeDiff, Nat.reduceMul, Nat.reduceLT, *]
    | simp (singlePass := true) (maxDischargeDepth := 99) only [*, S2, Nat.reduceLT])
    exact ⟨_, rfl, _, _, rfl, (H6.1 _ FR).more z5, (R6.1 _ FR).more z5⟩
end
end Go.Proofs.YtmcdgepfhpakiaaGreat
