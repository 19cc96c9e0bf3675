/- The layer agent, and the document's answer, layer 26: Fail. -/
import Derived.Test.YtblegjdogmcgbaaGreatAgent1
import Derived.Test.YtblegjdogmcgbaaGreatOwn1
import Derived.Test.YtblegjdogmcgbaaGreatDel2
import Derived.Test.YtblegjdogmcgbaaGreatRef13
import Derived.Test.YtblegjdogmcgbaaGreatCopy13
namespace Go.Proofs.YtblegjdogmcgbaaGreat
set_option linter.unusedSimpArgs false
set_option linter.unusedVariables false
open Go Go.RowKit
set_option maxRecDepth 100000
set_option linter.unusedSectionVars false
set_option maxHeartbeats 2000000
section
variable {w : World} {B : Nat} {u : SiteVs} {s : SiteD} {wv hv rv : Value} {sl : List SrvV} {x : WorldD}
theorem agentFail1 {h : Int} {r : ReplicaD} {b : Nat} (hb : Blk w b 3 [intV h]) : Ret Tryz.prog 39 #[replicaV r, .pointer (some ⟨b, 0, none⟩)] w (.bool (r.host == h)) := by
 have hn : Now w := trivial
 have hx : Ext w w := Ext.refl w
 have kb := hb.bk
 (refine callsV_of Tryz.func39 rfl KR KR ?_; rw [Tryz.results39])
 (repeat' first
  | ((with_reducible refine at_row ?_); refine row1_a fun _ _ _ _ _ _ _ => ?_)
  | with_reducible first | (first | apply alloc_k | apply row_k); intro _ _ _ _ _ _ | (first | apply fork | apply forkp) <;> intro _ | refine forke (fun _ => ?_) fun _ _ => ?_ | refine tail_k fun _ _ _ => ?_ | refine ext_k fun _ _ _ => ?_ | refine need_a ?_ | refine st_agg KR rfl ON fun _ _ _ _ => ?_ | refine wpd_q_a ?_
  | simp (maxDischargeDepth := 3) only [↓X, ↓Y, ↓Q, S1, ↓reduceIte, Nat.reduceEqDiff, Nat.reduceAdd, Int.reduceLT, Int.reduceLE, Int.reduceNeg, Int.reduceBEq, Int.reduceBNe, Int.reduceEq, Nat.reduceLeDiff, Nat.reduceMul, Nat.reduceLT, *, replicaV]
  | simp (singlePass := true) (maxDischargeDepth := 99) only [*, S2, Nat.reduceLT, replicaV])
theorem fail_len {wl : List ServiceD} {h : Int} (h1 : failOk s wl x h = true) : x.hosts.length ≤ 1000000 ∧ x.replicas.length ≤ 1000000 := by
 simp only [failOk, Bool.and_eq_true] at h1
 have b := valid_parts h1.1.1
 have d : s.hosts.length ≤ 16 := by
  have := b.1
  simp only [siteB, sizesB, btw, Bool.and_eq_true, decide_eq_true_eq] at this
  omega
 omega
theorem agentFail {host : Int} (hB : B ≤ w.heap.size) (hs : SiteR w B u s) (hl : WishR w B wv sl) (hx0 : WorldR w B hv rv x) : CallsV Tryz.prog 20 #[.agg (siteC u s).toArray, .agg #[wv], .agg #[hv, rv], intV host] w fun v w' => Ext w w' ∧ ∃ v0, v = .tuple #[v0, intV (failE s (sl.map (·.x)) x host)] ∧ OwnW w.heap.size v0 w' (failW s (sl.map (·.x)) x host) := by
 have hn : Now w := trivial
 have hx : Ext w w := Ext.refl w
 have hs' := hs.sk hB
 have hl' := hl.sk hB
 have hx' := hx0.sk hB
 have hS := hs'.2.2.2.2.2.2
 have hW := hl'.2.2
 have hX := hx'.2.2.2.2
 have hv2 := fun w' (h1 : Bl B w w') (h3 : B ≤ w'.heap.size) => worldValid h3 (hS w' h1) (hW w' h1) (hX w' h1)
 have hE1 : failOk s (sl.map (·.x)) x host = false → Hid (failE s (sl.map (·.x)) x host = 1 ∧ failW s (sl.map (·.x)) x host = noW) := fun h => by
  have e : failE s (sl.map (·.x)) x host = 1 := by simp [failE, h]
  exact ⟨e, by rw [failW, e]; rfl⟩
 have hE2 : failOk s (sl.map (·.x)) x host = true → (hostAt x host).phase = 4 → Hid (failE s (sl.map (·.x)) x host = 8 ∧ failW s (sl.map (·.x)) x host = noW) := fun h h2 => by
  have e : failE s (sl.map (·.x)) x host = 8 := by simp [failE, h, h2]
  exact ⟨e, by rw [failW, e]; rfl⟩
 have hE3 : failOk s (sl.map (·.x)) x host = true → ¬ (hostAt x host).phase = 4 → Hid (failE s (sl.map (·.x)) x host = 0 ∧ failW s (sl.map (·.x)) x host = ⟨x.hosts.set host.toNat ⟨4, (hostAt x host).firmware⟩, failL host x.replicas⟩) := fun h h2 => by
  have e : failE s (sl.map (·.x)) x host = 0 := by simp [failE, h, h2]
  exact ⟨e, by rw [failW, e]; rfl⟩
 have hok : failOk s (sl.map (·.x)) x host = (validB s (sl.map (·.x)) x && decide (0 ≤ host) && decide (host < x.hosts.length)) := rfl
 have hlen : failOk s (sl.map (·.x)) x host = true → Hid (x.hosts.length ≤ 1000000 ∧ x.replicas.length ≤ 1000000) := fail_len
 generalize failE s (sl.map (·.x)) x host = E at *
 generalize failW s (sl.map (·.x)) x host = W at *
 generalize failOk s (sl.map (·.x)) x host = ok at *
 generalize validB s (sl.map (·.x)) x = vb at *
 subst hok
 (refine callsV_of Tryz.func20 rfl KR KR ?_; rw [Tryz.results20])
 cases vb
 ·obtain ⟨rfl, rfl⟩ := (hE1 (by simp)).out
  clear hE1 hE2 hE3 hlen
  (repeat' first
  | ((with_reducible refine at_row ?_); refine row1_a fun _ _ _ _ _ _ _ => ?_)
  | with_reducible first | (first | apply alloc_k | apply row_k); intro _ _ _ _ _ _ | (first | apply fork | apply forkp) <;> intro _ | refine forke (fun _ => ?_) fun _ _ => ?_ | refine tail_k fun _ _ _ => ?_ | refine ext_k fun _ _ _ => ?_ | refine need_a ?_ | refine st_agg KR rfl ON fun _ _ _ _ => ?_ | refine wpd_q_a ?_
  | ((with_reducible refine at_f 28 ?_); refine ret_k (hv2 _ FR FR) fun _ _ _ => ?_)
  | simp (maxDischargeDepth := 3) only [↓X, ↓Y, ↓Q, S1, ↓reduceIte, Nat.reduceEqDiff, Nat.reduceAdd, Int.reduceLT, Int.reduceLE, Int.reduceNeg, Int.reduceBEq, Int.reduceBNe, Int.reduceEq, Nat.reduceLeDiff, Nat.reduceMul, Nat.reduceLT, *, siteC]
  | simp (singlePass := true) (maxDischargeDepth := 99) only [*, S2, Nat.reduceLT, siteC])
  all_goals exact ⟨_, rfl, OwnW.none _ _⟩
 by_cases h0 : host < 0
 ·obtain ⟨rfl, rfl⟩ := (hE1 (by simp; omega)).out
  have h1 : decide (host < 0) = true := by simpa using h0
  clear hE1 hE2 hE3 hlen h0
  (repeat' first
  | ((with_reducible refine at_row ?_); refine row1_a fun _ _ _ _ _ _ _ => ?_)
  | with_reducible first | (first | apply alloc_k | apply row_k); intro _ _ _ _ _ _ | (first | apply fork | apply forkp) <;> intro _ | refine forke (fun _ => ?_) fun _ _ => ?_ | refine tail_k fun _ _ _ => ?_ | refine ext_k fun _ _ _ => ?_ | refine need_a ?_ | refine st_agg KR rfl ON fun _ _ _ _ => ?_ | refine wpd_q_a ?_
  | ((with_reducible refine at_f 28 ?_); refine ret_k (hv2 _ FR FR) fun _ _ _ => ?_)
  | simp (maxDischargeDepth := 3) only [↓X, ↓Y, ↓Q, S1, ↓reduceIte, Nat.reduceEqDiff, Nat.reduceAdd, Int.reduceLT, Int.reduceLE, Int.reduceNeg, Int.reduceBEq, Int.reduceBNe, Int.reduceEq, Nat.reduceLeDiff, Nat.reduceMul, Nat.reduceLT, *, siteC]
  | simp (singlePass := true) (maxDischargeDepth := 99) only [*, S2, Nat.reduceLT, siteC])
  all_goals exact ⟨_, rfl, OwnW.none _ _⟩
 obtain ⟨k, rfl⟩ : ∃ k : Nat, host = k := ⟨host.toNat, by omega⟩
 by_cases hlt : k < x.hosts.length
 ·have hat : hostAt x k = x.hosts[k] := by simp [hostAt, hlt]
  rw [hat] at hE2 hE3
  have hl2 := hlen (by simp [hlt])
  have hE2' := hE2 (by simp [hlt])
  have hE3' := hE3 (by simp [hlt])
  replace hE2' : Hid _ := hE2'
  replace hE3' : Hid _ := hE3'
  have hge : ¬ x.hosts.length ≤ k := by omega
  clear hE1 hE2 hE3 hlen hat h0
  by_cases hp : x.hosts[k].phase = 4
  ·obtain ⟨rfl, rfl⟩ := (hE2'.out hp).out
   (repeat' first
  | ((with_reducible refine at_row ?_); refine row1_a fun _ _ _ _ _ _ _ => ?_)
  | with_reducible first | (first | apply alloc_k | apply row_k); intro _ _ _ _ _ _ | (first | apply fork | apply forkp) <;> intro _ | refine forke (fun _ => ?_) fun _ _ => ?_ | refine tail_k fun _ _ _ => ?_ | refine ext_k fun _ _ _ => ?_ | refine need_a ?_ | refine st_agg KR rfl ON fun _ _ _ _ => ?_ | refine wpd_q_a ?_
  | ((with_reducible refine at_f 28 ?_); refine ret_k (hv2 _ FR FR) fun _ _ _ => ?_)
  | simp (maxDischargeDepth := 3) only [↓X, ↓Y, ↓Q, S1, ↓reduceIte, Nat.reduceEqDiff, Nat.reduceAdd, Int.reduceLT, Int.reduceLE, Int.reduceNeg, Int.reduceBEq, Int.reduceBNe, Int.reduceEq, Nat.reduceLeDiff, Nat.reduceMul, Nat.reduceLT, *, siteC, stateV]
  | simp (singlePass := true) (maxDischargeDepth := 99) only [*, S2, Nat.reduceLT, siteC, stateV])
   all_goals exact ⟨_, rfl, OwnW.none _ _⟩
  ·obtain ⟨rfl, rfl⟩ := (hE3'.out hp).out
   have hp1 : (x.hosts[k].phase == 4) = false := by simpa using hp
   clear hE2' hE3'
   (repeat' first
  | ((with_reducible refine at_row ?_); refine row1_a fun _ _ _ _ _ _ _ => ?_)
  | with_reducible first | (first | apply alloc_k | apply row_k); intro _ _ _ _ _ _ | (first | apply fork | apply forkp) <;> intro _ | refine forke (fun _ => ?_) fun _ _ => ?_ | refine tail_k fun _ _ _ => ?_ | refine ext_k fun _ _ _ => ?_ | refine need_a ?_ | refine st_agg KR rfl ON fun _ _ _ _ => ?_ | refine wpd_q_a ?_
  | ((with_reducible refine at_f 28 ?_); refine ret_k (hv2 _ FR FR) fun _ _ _ => ?_)
  | simp (maxDischargeDepth := 3) only [↓X, ↓Y, ↓Q, S1, ↓reduceIte, Nat.reduceEqDiff, Nat.reduceAdd, Int.reduceLT, Int.reduceLE, Int.reduceNeg, Int.reduceBEq, Int.reduceBNe, Int.reduceEq, Nat.reduceLeDiff, Nat.reduceMul, Nat.reduceLT, *, siteC, stateV]
  | simp (singlePass := true) (maxDischargeDepth := 99) only [*, S2, Nat.reduceLT, siteC, stateV])
   rename_i b7 v7 u7 k7 t7 q7 b8 v8 u8 k8 t8 q8 wv nv sv
   refine call_k (agentOwn (B := B) FR (hX _ FR) hl2.out) ?_
   rintro _ w6 n6 s6 ⟨h6, r6, rfl, oh6, or6⟩
   have H6 := oh6.o
   have R6 := or6.o
   have f1 := (oh6.slN (f := stateC)).v (Nat.le_refl _)
   have f2 := (oh6.slN (f := stateC)).fv
   have fp := f2.1 k hlt
   clear oh6 or6
   (repeat' first
  | ((with_reducible refine at_row ?_); refine row1_a fun _ _ _ _ _ _ _ => ?_)
  | with_reducible first | (first | apply alloc_k | apply row_k); intro _ _ _ _ _ _ | (first | apply fork | apply forkp) <;> intro _ | refine forke (fun _ => ?_) fun _ _ => ?_ | refine tail_k fun _ _ _ => ?_ | refine ext_k fun _ _ _ => ?_ | refine need_a ?_ | refine st_agg KR rfl ON fun _ _ _ _ => ?_ | refine wpd_q_a ?_
  | simp (maxDischargeDepth := 3) only [↓X, ↓Y, ↓Q, S1, ↓reduceIte, Nat.reduceEqDiff, Nat.reduceAdd, Int.reduceLT, Int.reduceLE, Int.reduceNeg, Int.reduceBEq, Int.reduceBNe, Int.reduceEq, Nat.reduceLeDiff, Nat.reduceMul, Nat.reduceLT, *, siteC, stateV]
  | simp (singlePass := true) (maxDischargeDepth := 99) only [*, S2, Nat.reduceLT, siteC, stateV])
   rename_i b10 w10 n10 k10 s10 q10 wA nA kA sA
   refine own_set1 (i := k) (off := 0) KR (H6.1 _ FR) (by simpa using hlt) (by decide) rfl fun b' wB nB eB hbB hlB hownB sB cB => ?_
   have hnew : OwnH wB wv.heap.size h6 (x.hosts.set k ⟨4, x.hosts[k].firmware⟩) := by
    have h := hownB
    simp only [List.getElem_map, stateC, List.set_cons_zero] at h
    show Own wB wv.heap.size _ 2 h6 ((x.hosts.set k ⟨4, x.hosts[k].firmware⟩).map stateC)
    rw [List.map_set]
    exact h
   have hge : ∀ B, B ≤ wv.heap.size → B ≤ b' := fun B h => Nat.le_trans h hbB
   have hg1 : B ≤ b' := hge _ FR
   have hg2 : w.heap.size ≤ b' := hge _ FR
   have hne1 : ∀ b, b < wv.heap.size → ¬ b = b' := fun b h => by omega
   have hne2 : ∀ b, w6.heap.size ≤ b → ¬ b = b' := fun b h e => H6.2.2.2.2.2.2.1 b h (e ▸ eB)
   have hrne : ¬ blockOf r6 = some b' := own_ne (H6.1 w6 FR) (R6.1 w6 FR) (by decide) eB
   have hrB : OwnP wB wv.heap.size r6 x.replicas := R6.1 wB FR
   have HB := hnew.o
   have RB := hrB.o
   have hr10 : ¬ blockOf r6 = some b10 := R6.2.2.2.2.2.2.1 b10 FR
   have hh10 : ¬ blockOf h6 = some b10 := H6.2.2.2.2.2.2.1 b10 FR
   clear H6 R6 f1 f2 fp hownB eB
   (repeat' first
  | ((with_reducible refine at_row ?_); refine row1_a fun _ _ _ _ _ _ _ => ?_)
  | with_reducible first | (first | apply alloc_k | apply row_k); intro _ _ _ _ _ _ | (first | apply fork | apply forkp) <;> intro _ | refine forke (fun _ => ?_) fun _ _ => ?_ | refine tail_k fun _ _ _ => ?_ | refine ext_k fun _ _ _ => ?_ | refine need_a ?_ | refine st_agg KR rfl ON fun _ _ _ _ => ?_ | refine wpd_q_a ?_
  | simp (maxDischargeDepth := 3) only [↓X, ↓Y, ↓Q, S1, ↓reduceIte, Nat.reduceEqDiff, Nat.reduceAdd, Int.reduceLT, Int.reduceLE, Int.reduceNeg, Int.reduceBEq, Int.reduceBNe, Int.reduceEq, Nat.reduceLeDiff, Nat.reduceMul, Nat.reduceLT, *, siteC, stateV]
  | simp (singlePass := true) (maxDischargeDepth := 99) only [*, S2, Nat.reduceLT, siteC, stateV])
   refine CallsV.mono (deleteFuncC (w := wB) (B := wv.heap.size) (cl := 39) (caps := [.pointer (some ⟨b7, 0, none⟩)]) (q := fun a => a.host == (k : Int)) FR hrB KR fun a w' hb' => agentFail1 (by have sa' := sa_of hb'.2; exact k7.2.1 _ FR)) ?_
   rintro d wC ⟨hbC, ⟨gC, hgC, hcC⟩, hownC⟩
   have sC := hcC.sc
   have saC := sa_of hbC
   have nC : Now wC := trivial
   have hg10 : ¬ b10 = gC := by
    rcases hgC with h | h
    ·exact fun e => hr10 (e ▸ h)
    ·have : b10 < wB.heap.size := FR
     omega
   have hgh : ¬ blockOf h6 = some gC := by
    rcases hgC with h | h
    ·exact fun e => own_ne hnew hrB (by decide) e h
    ·intro e
     have h9 := (hnew.lt gC (by rw [← hnew.block]; exact e)).2
     omega
   have hkB : Kp b10 wA wB := FR
   have hkC : Kp b10 wA wC := sC.1 _ _ hkB hg10
   have hd10 : ¬ blockOf d = some b10 := by
    rw [hownC.block]
    exact hownC.ne (kA.2.1 wC hkC) (by decide)
   have HC : OwnH wC wv.heap.size h6 (x.hosts.set k ⟨4, x.hosts[k].firmware⟩) := HB.1 wC (sC.2.2.2.2.2.2.2.2 h6 wB HB.2.1 hgh)
   have HD := HC.o
   have DD := hownC.o
   have hb8v : b8 < wv.heap.size := FR
   have hh8 : ¬ blockOf h6 = some b8 := HD.2.2.1 b8 hb8v
   have hd8 : ¬ blockOf d = some b8 := DD.2.2.1 b8 hb8v
   clear HB RB hownC HC hnew hrB hge hcC sC hgC
   (repeat' first
  | ((with_reducible refine at_row ?_); refine row1_a fun _ _ _ _ _ _ _ => ?_)
  | with_reducible first | (first | apply alloc_k | apply row_k); intro _ _ _ _ _ _ | (first | apply fork | apply forkp) <;> intro _ | refine forke (fun _ => ?_) fun _ _ => ?_ | refine tail_k fun _ _ _ => ?_ | refine ext_k fun _ _ _ => ?_ | refine need_a ?_ | refine st_agg KR rfl ON fun _ _ _ _ => ?_ | refine wpd_q_a ?_
  | simp (maxDischargeDepth := 3) only [↓X, ↓Y, ↓Q, S1, ↓reduceIte, Nat.reduceEqDiff, Nat.reduceAdd, Int.reduceLT, Int.reduceLE, Int.reduceNeg, Int.reduceBEq, Int.reduceBNe, Int.reduceEq, Nat.reduceLeDiff, Nat.reduceMul, Nat.reduceLT, *, siteC, stateV]
  | simp (singlePass := true) (maxDischargeDepth := 99) only [*, S2, Nat.reduceLT, siteC, stateV])
   refine st_one KR (by simp) DD.2.2.2.1 fun wD nD kD sD => ?_
   simp only [List.set_cons_zero, List.set_cons_succ] at kD
   (repeat' first
  | ((with_reducible refine at_row ?_); refine row1_a fun _ _ _ _ _ _ _ => ?_)
  | with_reducible first | (first | apply alloc_k | apply row_k); intro _ _ _ _ _ _ | (first | apply fork | apply forkp) <;> intro _ | refine forke (fun _ => ?_) fun _ _ => ?_ | refine tail_k fun _ _ _ => ?_ | refine ext_k fun _ _ _ => ?_ | refine need_a ?_ | refine st_agg KR rfl ON fun _ _ _ _ => ?_ | refine wpd_q_a ?_
  | simp (maxDischargeDepth := 3) only [↓X, ↓Y, ↓Q, S1, ↓reduceIte, Nat.reduceEqDiff, Nat.reduceAdd, Int.reduceLT, Int.reduceLE, Int.reduceNeg, Int.reduceBEq, Int.reduceBNe, Int.reduceEq, Nat.reduceLeDiff, Nat.reduceMul, Nat.reduceLT, *, siteC]
  | simp (singlePass := true) (maxDischargeDepth := 99) only [*, S2, Nat.reduceLT, siteC])
   exact ⟨_, rfl, _, _, rfl, (HD.1 _ FR).more FR, (DD.1 _ FR).more FR⟩
 ·obtain ⟨rfl, rfl⟩ := (hE1 (by simp; omega)).out
  have h1 : x.hosts.length ≤ k := by omega
  clear hE1 hE2 hE3 hlen h0
  (repeat' first
  | ((with_reducible refine at_row ?_); refine row1_a fun _ _ _ _ _ _ _ => ?_)
  | with_reducible first | (first | apply alloc_k | apply row_k); intro _ _ _ _ _ _ | (first | apply fork | apply forkp) <;> intro _ | refine forke (fun _ => ?_) fun _ _ => ?_ | refine tail_k fun _ _ _ => ?_ | refine ext_k fun _ _ _ => ?_ | refine need_a ?_ | refine st_agg KR rfl ON fun _ _ _ _ => ?_ | refine wpd_q_a ?_
  | ((with_reducible refine at_f 28 ?_); refine ret_k (hv2 _ FR FR) fun _ _ _ => ?_)
  | simp (maxDischargeDepth := 3) only [↓X, ↓Y, ↓Q, S1, ↓reduceIte, Nat.reduceEqDiff, Nat.reduceAdd, Int.reduceLT, Int.reduceLE, Int.reduceNeg, Int.reduceBEq, Int.reduceBNe, Int.reduceEq, Nat.reduceLeDiff, Nat.reduceMul, Nat.reduceLT, *, siteC]
  | simp (singlePass := true) (maxDischargeDepth := 99) only [*, S2, Nat.reduceLT, siteC])
  all_goals exact ⟨_, rfl, OwnW.none _ _⟩
end
end Go.Proofs.YtblegjdogmcgbaaGreat
/- The document's answer, layer 26: Fail. -/
namespace Go.Proofs.YtblegjdogmcgbaaGreat
set_option linter.unusedSimpArgs false
set_option linter.unusedVariables false
open Go Go.RowKit
set_option maxRecDepth 100000
set_option linter.unusedSectionVars false
set_option maxHeartbeats 2000000
section
variable {w : World} {B : Nat} {u : SiteVs} {s : SiteD} {wv hv rv : Value} {sl : List SrvV} {x : WorldD}
end
end Go.Proofs.YtblegjdogmcgbaaGreat
