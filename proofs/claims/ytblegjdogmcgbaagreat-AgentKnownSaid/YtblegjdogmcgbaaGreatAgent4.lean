/- The layer agent, and the document's answer, layer 26: Fail. -/
import Derived.Test.YtblegjdogmcgbaaGreatAgent1
import Derived.Test.YtblegjdogmcgbaaGreatOwn1
import Derived.Test.YtblegjdogmcgbaaGreatDel2
import Derived.Test.YtblegjdogmcgbaaGreatRef13
import Derived.Test.YtblegjdogmcgbaaGreatCopy13
namespace Go.Proofs.YtblegjdogmcgbaaGreat
set_option linter.unusedSimpArgs false
set_option linter.unusedVariables false
open Go Go.RowKit
set_option maxRecDepth 100000
set_option linter.unusedSectionVars false
set_option maxHeartbeats 2000000
section
variable {w : World} {B : Nat} {u : SiteVs} {s : SiteD} {wv hv rv : Value} {sl : List SrvV} {x : WorldD}
theorem agentFail1 {h : Int} {r : ReplicaD} {b : Nat} (hb : Blk w b 3 [intV h]) : Ret Tryz.prog 39 #[replicaV r, .pointer (some ⟨b, 0, none⟩)] w (.bool (r.host == h)) := by
  have hn : Now w := trivial
  have hx : Ext w w := Ext.refl w
  have kb := hb.bk
  (refine callsV_of Tryz.func39 rfl (by kernel_rfl) (by kernel_rfl) ?_; rw [Tryz.results39])
  (repeat' first
    | ((with_reducible refine at_row ?_); refine row1_k (by rfl) (by decide) fun _ _ _ _ _ _ _ => ?_)
    | with_reducible first | refine alloc_k fun _ _ _ _ _ _ => ?_ | refine row_k fun _ _ _ _ _ _ => ?_ | refine fork (fun _ => ?_) fun _ => ?_ | refine forkp (fun _ => ?_) fun _ => ?_ | refine forke (fun _ => ?_) fun _ _ => ?_ | refine tail_k fun _ _ _ => ?_ | refine ext_k fun _ _ _ => ?_ | refine need_a ?_ | refine st_agg (by kernel_rfl) rfl (by simp only [natV, intV, S3, *]) fun _ _ _ _ => ?_ | refine wpd_q_a ?_
    | simp (maxDischargeDepth := 3) only [↓X, ↓Y, ↓Q, S1, ↓reduceIte, Nat.reduceEqDiff, Nat.reduceAdd, Int.reduceLT, Int.reduceLE, Int.reduceNeg, Int.reduceBEq, Int.reduceBNe, Int.reduceEq, Nat.reduceLeDiff, Nat.reduceMul, Nat.reduceLT, natV, intV, putAt, idxOk, flatP, *, replicaV]
    | simp (singlePass := true) (maxDischargeDepth := 99) only [*, S2, Nat.reduceLT, replicaV])
theorem fail_len {wl : List ServiceD} {h : Int} (h1 : failOk s wl x h = true) : x.hosts.length ≤ 1000000 ∧ x.replicas.length ≤ 1000000 := by
  simp only [failOk, Bool.and_eq_true] at h1
  have b := valid_parts h1.1.1
  have d : s.hosts.length ≤ 16 := by
    have := b.1
    simp only [siteB, sizesB, btw, Bool.and_eq_true, decide_eq_true_eq] at this
    omega
  omega
theorem agentFail {host : Int} (hB : B ≤ w.heap.size) (hs : SiteR w B u s) (hl : WishR w B wv sl) (hx0 : WorldR w B hv rv x) : CallsV Tryz.prog 20 #[.agg (siteC u s).toArray, .agg #[wv], .agg #[hv, rv], intV host] w fun v w' => Ext w w' ∧ ∃ v0, v = .tuple #[v0, intV (failE s (sl.map (·.x)) x host)] ∧ OwnW w.heap.size v0 w' (failW s (sl.map (·.x)) x host) := by
  have hn : Now w := trivial
  have hx : Ext w w := Ext.refl w
  have hs' := hs.sk hB
  have hl' := hl.sk hB
  have hx' := hx0.sk hB
  have hS := hs'.2.2.2.2.2.2
  have hW := hl'.2.2
  have hX := hx'.2.2.2.2
  have hv2 := fun w' (h1 : Bl B w w') (h3 : B ≤ w'.heap.size) => worldValid h3 (hS w' h1) (hW w' h1) (hX w' h1)
  have hE1 : failOk s (sl.map (·.x)) x host = false → Hid (failE s (sl.map (·.x)) x host = 1 ∧ failW s (sl.map (·.x)) x host = noW) := fun h => by
    have e : failE s (sl.map (·.x)) x host = 1 := by simp [failE, h]
    exact ⟨e, by rw [failW, e]; rfl⟩
  have hE2 : failOk s (sl.map (·.x)) x host = true → (hostAt x host).phase = 4 → Hid (failE s (sl.map (·.x)) x host = 8 ∧ failW s (sl.map (·.x)) x host = noW) := fun h h2 => by
    have e : failE s (sl.map (·.x)) x host = 8 := by simp [failE, h, h2]
    exact ⟨e, by rw [failW, e]; rfl⟩
  have hE3 : failOk s (sl.map (·.x)) x host = true → ¬ (hostAt x host).phase = 4 → Hid (failE s (sl.map (·.x)) x host = 0 ∧ failW s (sl.map (·.x)) x host = ⟨x.hosts.set host.toNat ⟨4, (hostAt x host).firmware⟩, failL host x.replicas⟩) := fun h h2 => by
    have e : failE s (sl.map (·.x)) x host = 0 := by simp [failE, h, h2]
    exact ⟨e, by rw [failW, e]; rfl⟩
  have hok : failOk s (sl.map (·.x)) x host = (validB s (sl.map (·.x)) x && decide (0 ≤ host) && decide (host < x.hosts.length)) := rfl
  have hlen : failOk s (sl.map (·.x)) x host = true → Hid (x.hosts.length ≤ 1000000 ∧ x.replicas.length ≤ 1000000) := fail_len
  generalize failE s (sl.map (·.x)) x host = E at *
  generalize failW s (sl.map (·.x)) x host = W at *
  generalize failOk s (sl.map (·.x)) x host = ok at *
  generalize validB s (sl.map (·.x)) x = vb at *
  subst hok
  (refine callsV_of Tryz.func20 rfl (by kernel_rfl) (by kernel_rfl) ?_; rw [Tryz.results20])
  cases vb
  · obtain ⟨rfl, rfl⟩ := (hE1 (by simp)).out
    clear hE1 hE2 hE3 hlen
    (repeat' first
    | ((with_reducible refine at_row ?_); refine row1_k (by rfl) (by decide) fun _ _ _ _ _ _ _ => ?_)
    | with_reducible first | refine alloc_k fun _ _ _ _ _ _ => ?_ | refine row_k fun _ _ _ _ _ _ => ?_ | refine fork (fun _ => ?_) fun _ => ?_ | refine forkp (fun _ => ?_) fun _ => ?_ | refine forke (fun _ => ?_) fun _ _ => ?_ | refine tail_k fun _ _ _ => ?_ | refine ext_k fun _ _ _ => ?_ | refine need_a ?_ | refine st_agg (by kernel_rfl) rfl (by simp only [natV, intV, S3, *]) fun _ _ _ _ => ?_ | refine wpd_q_a ?_
    | ((with_reducible refine at_f 28 ?_); refine ret_k (hv2 _ FR FR) fun _ _ _ => ?_)
    | simp (maxDischargeDepth := 3) only [↓X, ↓Y, ↓Q, S1, ↓reduceIte, Nat.reduceEqDiff, Nat.reduceAdd, Int.reduceLT, Int.reduceLE, Int.reduceNeg, Int.reduceBEq, Int.reduceBNe, Int.reduceEq, Nat.reduceLeDiff, Nat.reduceMul, Nat.reduceLT, natV, intV, putAt, idxOk, flatP, *, siteC]
    | simp (singlePass := true) (maxDischargeDepth := 99) only [*, S2, Nat.reduceLT, siteC])
    all_goals exact ⟨_, rfl, OwnW.none _ _⟩
  by_cases h0 : host < 0
  · obtain ⟨rfl, rfl⟩ := (hE1 (by simp; omega)).out
    have h1 : decide (host < 0) = true := by simpa using h0
    clear hE1 hE2 hE3 hlen h0
    (repeat' first
    | ((with_reducible refine at_row ?_); refine row1_k (by rfl) (by decide) fun _ _ _ _ _ _ _ => ?_)
    | with_reducible first | refine alloc_k fun _ _ _ _ _ _ => ?_ | refine row_k fun _ _ _ _ _ _ => ?_ | refine fork (fun _ => ?_) fun _ => ?_ | refine forkp (fun _ => ?_) fun _ => ?_ | refine forke (fun _ => ?_) fun _ _ => ?_ | refine tail_k fun _ _ _ => ?_ | refine ext_k fun _ _ _ => ?_ | refine need_a ?_ | refine st_agg (by kernel_rfl) rfl (by simp only [natV, intV, S3, *]) fun _ _ _ _ => ?_ | refine wpd_q_a ?_
    | ((with_reducible refine at_f 28 ?_); refine ret_k (hv2 _ FR FR) fun _ _ _ => ?_)
    | simp (maxDischargeDepth := 3) only [↓X, ↓Y, ↓Q, S1, ↓reduceIte, Nat.reduceEqDiff, Nat.reduceAdd, Int.reduceLT, Int.reduceLE, Int.reduceNeg, Int.reduceBEq, Int.reduceBNe, Int.reduceEq, Nat.reduceLeDiff, Nat.reduceMul, Nat.reduceLT, natV, intV, putAt, idxOk, flatP, *, siteC]
    | simp (singlePass := true) (maxDischargeDepth := 99) only [*, S2, Nat.reduceLT, siteC])
    all_goals exact ⟨_, rfl, OwnW.none _ _⟩
  obtain ⟨k, rfl⟩ : ∃ k : Nat, host = k := ⟨host.toNat, by omega⟩
  by_cases hlt : k < x.hosts.length
  · have hat : hostAt x k = x.hosts[k] := by simp [hostAt, hlt]
    rw [hat] at hE2 hE3
    have hl2 := hlen (by simp [hlt])
    have hE2' := hE2 (by simp [hlt])
    have hE3' := hE3 (by simp [hlt])
    replace hE2' : Hid _ := hE2'
    replace hE3' : Hid _ := hE3'
    have hge : ¬ x.hosts.length ≤ k := by omega
    clear hE1 hE2 hE3 hlen hat h0
    by_cases hp : x.hosts[k].phase = 4
    · obtain ⟨rfl, rfl⟩ := (hE2'.out hp).out
      (repeat' first
    | ((with_reducible refine at_row ?_); refine row1_k (by rfl) (by decide) fun _ _ _ _ _ _ _ => ?_)
    | with_reducible first | refine alloc_k fun _ _ _ _ _ _ => ?_ | refine row_k fun _ _ _ _ _ _ => ?_ | refine fork (fun _ => ?_) fun _ => ?_ | refine forkp (fun _ => ?_) fun _ => ?_ | refine forke (fun _ => ?_) fun _ _ => ?_ | refine tail_k fun _ _ _ => ?_ | refine ext_k fun _ _ _ => ?_ | refine need_a ?_ | refine st_agg (by kernel_rfl) rfl (by simp only [natV, intV, S3, *]) fun _ _ _ _ => ?_ | refine wpd_q_a ?_
    | ((with_reducible refine at_f 28 ?_); refine ret_k (hv2 _ FR FR) fun _ _ _ => ?_)
    | simp (maxDischargeDepth := 3) only [↓X, ↓Y, ↓Q, S1, ↓reduceIte, Nat.reduceEqDiff, Nat.reduceAdd, Int.reduceLT, Int.reduceLE, Int.reduceNeg, Int.reduceBEq, Int.reduceBNe, Int.reduceEq, Nat.reduceLeDiff, Nat.reduceMul, Nat.reduceLT, natV, intV, putAt, idxOk, flatP, *, siteC, stateV]
    | simp (singlePass := true) (maxDischargeDepth := 99) only [*, S2, Nat.reduceLT, siteC, stateV])
      all_goals exact ⟨_, rfl, OwnW.none _ _⟩
    · obtain ⟨rfl, rfl⟩ := (hE3'.out hp).out
      have hp1 : (x.hosts[k].phase == 4) = false := by simpa using hp
      clear hE2' hE3'
      (repeat' first
    | ((with_reducible refine at_row ?_); refine row1_k (by rfl) (by decide) fun _ _ _ _ _ _ _ => ?_)
    | with_reducible first | refine alloc_k fun _ _ _ _ _ _ => ?_ | refine row_k fun _ _ _ _ _ _ => ?_ | refine fork (fun _ => ?_) fun _ => ?_ | refine forkp (fun _ => ?_) fun _ => ?_ | refine forke (fun _ => ?_) fun _ _ => ?_ | refine tail_k fun _ _ _ => ?_ | refine ext_k fun _ _ _ => ?_ | refine need_a ?_ | refine st_agg (by kernel_rfl) rfl (by simp only [natV, intV, S3, *]) fun _ _ _ _ => ?_ | refine wpd_q_a ?_
    | ((with_reducible refine at_f 28 ?_); refine ret_k (hv2 _ FR FR) fun _ _ _ => ?_)
    | simp (maxDischargeDepth := 3) only [↓X, ↓Y, ↓Q, S1, ↓reduceIte, Nat.reduceEqDiff, Nat.reduceAdd, Int.reduceLT, Int.reduceLE, Int.reduceNeg, Int.reduceBEq, Int.reduceBNe, Int.reduceEq, Nat.reduceLeDiff, Nat.reduceMul, Nat.reduceLT, natV, intV, putAt, idxOk, flatP, *, siteC, stateV]
    | simp (singlePass := true) (maxDischargeDepth := 99) only [*, S2, Nat.reduceLT, siteC, stateV])
      rename_i b7 v7 u7 k7 t7 q7 b8 v8 u8 k8 t8 q8 wv nv sv
      refine call_k (agentOwn (B := B) FR (hX _ FR) hl2.out) ?_
      rintro _ w6 n6 s6 ⟨h6, r6, rfl, oh6, or6⟩
      have H6 := oh6.o
      have R6 := or6.o
      have f1 := (oh6.slN (f := stateC)).v (Nat.le_refl _)
      have f2 := (oh6.slN (f := stateC)).fv
      have fp := f2.1 k hlt
      clear oh6 or6
      (repeat' first
    | ((with_reducible refine at_row ?_); refine row1_k (by rfl) (by decide) fun _ _ _ _ _ _ _ => ?_)
    | with_reducible first | refine alloc_k fun _ _ _ _ _ _ => ?_ | refine row_k fun _ _ _ _ _ _ => ?_ | refine fork (fun _ => ?_) fun _ => ?_ | refine forkp (fun _ => ?_) fun _ => ?_ | refine forke (fun _ => ?_) fun _ _ => ?_ | refine tail_k fun _ _ _ => ?_ | refine ext_k fun _ _ _ => ?_ | refine need_a ?_ | refine st_agg (by kernel_rfl) rfl (by simp only [natV, intV, S3, *]) fun _ _ _ _ => ?_ | refine wpd_q_a ?_
    | simp (maxDischargeDepth := 3) only [↓X, ↓Y, ↓Q, S1, ↓reduceIte, Nat.reduceEqDiff, Nat.reduceAdd, Int.reduceLT, Int.reduceLE, Int.reduceNeg, Int.reduceBEq, Int.reduceBNe, Int.reduceEq, Nat.reduceLeDiff, Nat.reduceMul, Nat.reduceLT, natV, intV, putAt, idxOk, flatP, *, siteC, stateV]
    | simp (singlePass := true) (maxDischargeDepth := 99) only [*, S2, Nat.reduceLT, siteC, stateV])
      rename_i b10 w10 n10 k10 s10 q10 wA nA kA sA
      refine own_set1 (i := k) (off := 0) (by kernel_rfl) (H6.1 _ FR) (by simpa using hlt) (by decide) rfl fun b' wB nB eB hbB hlB hownB sB cB => ?_
      have hnew : OwnH wB wv.heap.size h6 (x.hosts.set k ⟨4, x.hosts[k].firmware⟩) := by
        have h := hownB
        simp only [List.getElem_map, stateC, List.set_cons_zero] at h
        show Own wB wv.heap.size _ 2 h6 ((x.hosts.set k ⟨4, x.hosts[k].firmware⟩).map stateC)
        rw [List.map_set]
        exact h
      have hge : ∀ B, B ≤ wv.heap.size → B ≤ b' := fun B h => Nat.le_trans h hbB
      have hg1 : B ≤ b' := hge _ FR
      have hg2 : w.heap.size ≤ b' := hge _ FR
      have hne1 : ∀ b, b < wv.heap.size → ¬ b = b' := fun b h => by omega
      have hne2 : ∀ b, w6.heap.size ≤ b → ¬ b = b' := fun b h e => H6.2.2.2.2.2.2.1 b h (e ▸ eB)
      have hrne : ¬ blockOf r6 = some b' := own_ne (H6.1 w6 FR) (R6.1 w6 FR) (by decide) eB
      have hrB : OwnP wB wv.heap.size r6 x.replicas := R6.1 wB FR
      have HB := hnew.o
      have RB := hrB.o
      have hr10 : ¬ blockOf r6 = some b10 := R6.2.2.2.2.2.2.1 b10 FR
      have hh10 : ¬ blockOf h6 = some b10 := H6.2.2.2.2.2.2.1 b10 FR
      clear H6 R6 f1 f2 fp hownB eB
      (repeat' first
    | ((with_reducible refine at_row ?_); refine row1_k (by rfl) (by decide) fun _ _ _ _ _ _ _ => ?_)
    | with_reducible first | refine alloc_k fun _ _ _ _ _ _ => ?_ | refine row_k fun _ _ _ _ _ _ => ?_ | refine fork (fun _ => ?_) fun _ => ?_ | refine forkp (fun _ => ?_) fun _ => ?_ | refine forke (fun _ => ?_) fun _ _ => ?_ | refine tail_k fun _ _ _ => ?_ | refine ext_k fun _ _ _ => ?_ | refine need_a ?_ | refine st_agg (by kernel_rfl) rfl (by simp only [natV, intV, S3, *]) fun _ _ _ _ => ?_ | refine wpd_q_a ?_
    | simp (maxDischargeDepth := 3) only [↓X, ↓Y, ↓Q, S1, ↓reduceIte, Nat.reduceEqDiff, Nat.reduceAdd, Int.reduceLT, Int.reduceLE, Int.reduceNeg, Int.reduceBEq, Int.reduceBNe, Int.reduceEq, Nat.reduceLeDiff, Nat.reduceMul, Nat.reduceLT, natV, intV, putAt, idxOk, flatP, *, siteC, stateV]
    | simp (singlePass := true) (maxDischargeDepth := 99) only [*, S2, Nat.reduceLT, siteC, stateV])
      refine CallsV.mono (deleteFuncC (w := wB) (B := wv.heap.size) (cl := 39) (caps := [.pointer (some ⟨b7, 0, none⟩)]) (q := fun a => a.host == (k : Int)) FR hrB (by kernel_rfl) fun a w' hb' => agentFail1 (by have sa' := sa_of hb'.2; exact k7.2.1 _ FR)) ?_
      rintro d wC ⟨hbC, ⟨gC, hgC, hcC⟩, hownC⟩
      have sC := hcC.sc
      have saC := sa_of hbC
      have nC : Now wC := trivial
      have hg10 : ¬ b10 = gC := by
        rcases hgC with h | h
        · exact fun e => hr10 (e ▸ h)
        · have : b10 < wB.heap.size := FR
          omega
      have hgh : ¬ blockOf h6 = some gC := by
        rcases hgC with h | h
        · exact fun e => own_ne hnew hrB (by decide) e h
        · intro e
          have h9 := (hnew.lt gC (by rw [← hnew.block]; exact e)).2
          omega
      have hkB : Kp b10 wA wB := FR
      have hkC : Kp b10 wA wC := sC.1 _ _ hkB hg10
      have hd10 : ¬ blockOf d = some b10 := by
        rw [hownC.block]
        exact hownC.ne (kA.2.1 wC hkC) (by decide)
      have HC : OwnH wC wv.heap.size h6 (x.hosts.set k ⟨4, x.hosts[k].firmware⟩) := HB.1 wC (sC.2.2.2.2.2.2.2.2 h6 wB HB.2.1 hgh)
      have HD := HC.o
      have DD := hownC.o
      have hb8v : b8 < wv.heap.size := FR
      have hh8 : ¬ blockOf h6 = some b8 := HD.2.2.1 b8 hb8v
      have hd8 : ¬ blockOf d = some b8 := DD.2.2.1 b8 hb8v
      clear HB RB hownC HC hnew hrB hge hcC sC hgC
      (repeat' first
    | ((with_reducible refine at_row ?_); refine row1_k (by rfl) (by decide) fun _ _ _ _ _ _ _ => ?_)
    | with_reducible first | refine alloc_k fun _ _ _ _ _ _ => ?_ | refine row_k fun _ _ _ _ _ _ => ?_ | refine fork (fun _ => ?_) fun _ => ?_ | refine forkp (fun _ => ?_) fun _ => ?_ | refine forke (fun _ => ?_) fun _ _ => ?_ | refine tail_k fun _ _ _ => ?_ | refine ext_k fun _ _ _ => ?_ | refine need_a ?_ | refine st_agg (by kernel_rfl) rfl (by simp only [natV, intV, S3, *]) fun _ _ _ _ => ?_ | refine wpd_q_a ?_
    | simp (maxDischargeDepth := 3) only [↓X, ↓Y, ↓Q, S1, ↓reduceIte, Nat.reduceEqDiff, Nat.reduceAdd, Int.reduceLT, Int.reduceLE, Int.reduceNeg, Int.reduceBEq, Int.reduceBNe, Int.reduceEq, Nat.reduceLeDiff, Nat.reduceMul, Nat.reduceLT, natV, intV, putAt, idxOk, flatP, *, siteC, stateV]
    | simp (singlePass := true) (maxDischargeDepth := 99) only [*, S2, Nat.reduceLT, siteC, stateV])
      refine st_one (by kernel_rfl) (by simp) DD.2.2.2.1 fun wD nD kD sD => ?_
      simp only [List.set_cons_zero, List.set_cons_succ] at kD
      (repeat' first
    | ((with_reducible refine at_row ?_); refine row1_k (by rfl) (by decide) fun _ _ _ _ _ _ _ => ?_)
    | with_reducible first | refine alloc_k fun _ _ _ _ _ _ => ?_ | refine row_k fun _ _ _ _ _ _ => ?_ | refine fork (fun _ => ?_) fun _ => ?_ | refine forkp (fun _ => ?_) fun _ => ?_ | refine forke (fun _ => ?_) fun _ _ => ?_ | refine tail_k fun _ _ _ => ?_ | refine ext_k fun _ _ _ => ?_ | refine need_a ?_ | refine st_agg (by kernel_rfl) rfl (by simp only [natV, intV, S3, *]) fun _ _ _ _ => ?_ | refine wpd_q_a ?_
    | simp (maxDischargeDepth := 3) only [↓X, ↓Y, ↓Q, S1, ↓reduceIte, Nat.reduceEqDiff, Nat.reduceAdd, Int.reduceLT, Int.reduceLE, Int.reduceNeg, Int.reduceBEq, Int.reduceBNe, Int.reduceEq, Nat.reduceLeDiff, Nat.reduceMul, Nat.reduceLT, natV, intV, putAt, idxOk, flatP, *, siteC]
    | simp (singlePass := true) (maxDischargeDepth := 99) only [*, S2, Nat.reduceLT, siteC])
      exact ⟨_, rfl, _, _, rfl, (HD.1 _ FR).more FR, (DD.1 _ FR).more FR⟩
  · obtain ⟨rfl, rfl⟩ := (hE1 (by simp; omega)).out
    have h1 : x.hosts.length ≤ k := by omega
    clear hE1 hE2 hE3 hlen h0
    (repeat' first
    | ((with_reducible refine at_row ?_); refine row1_k (by rfl) (by decide) fun _ _ _ _ _ _ _ => ?_)
    | with_reducible first | refine alloc_k fun _ _ _ _ _ _ => ?_ | refine row_k fun _ _ _ _ _ _ => ?_ | refine fork (fun _ => ?_) fun _ => ?_ | refine forkp (fun _ => ?_) fun _ => ?_ | refine forke (fun _ => ?_) fun _ _ => ?_ | refine tail_k fun _ _ _ => ?_ | refine ext_k fun _ _ _ => ?_ | refine need_a ?_ | refine st_agg (by kernel_rfl) rfl (by simp only [natV, intV, S3, *]) fun _ _ _ _ => ?_ | refine wpd_q_a ?_
    | ((with_reducible refine at_f 28 ?_); refine ret_k (hv2 _ FR FR) fun _ _ _ => ?_)
    | simp (maxDischargeDepth := 3) only [↓X, ↓Y, ↓Q, S1, ↓reduceIte, Nat.reduceEqDiff, Nat.reduceAdd, Int.reduceLT, Int.reduceLE, Int.reduceNeg, Int.reduceBEq, Int.reduceBNe, Int.reduceEq, Nat.reduceLeDiff, Nat.reduceMul, Nat.reduceLT, natV, intV, putAt, idxOk, flatP, *, siteC]
    | simp (singlePass := true) (maxDischargeDepth := 99) only [*, S2, Nat.reduceLT, siteC])
    all_goals exact ⟨_, rfl, OwnW.none _ _⟩
end
end Go.Proofs.YtblegjdogmcgbaaGreat
/- The document's answer, layer 26: Fail. -/
namespace Go.Proofs.YtblegjdogmcgbaaGreat
set_option linter.unusedSimpArgs false
set_option linter.unusedVariables false
open Go Go.RowKit
set_option maxRecDepth 100000
set_option linter.unusedSectionVars false
set_option maxHeartbeats 2000000
section
variable {w : World} {B : Nat} {u : SiteVs} {s : SiteD} {wv hv rv : Value} {sl : List SrvV} {x : WorldD}
theorem failL_take {l : List ReplicaD} {k : Nat} (h : k < l.length) (r : Int) : failL r (l.take (k + 1)) = failL r (l.take k) ++ if l[k].host = r then [] else [l[k]] := by
  unfold failL
  rw [filter_take h]
  by_cases e : l[k].host = r <;> simp [e]
theorem failL_len (l : List ReplicaD) (r : Int) : (failL r l).length ≤ l.length := List.length_filter_le _ _
theorem ref26Fail {host : Int} (hB : B ≤ w.heap.size) (hs : SiteR w B u s) (hl : WishR w B wv sl) (hx0 : WorldR w B hv rv x) : CallsV Tryz.prog 21 #[.agg (siteC u s).toArray, .agg #[wv], .agg #[hv, rv], intV host] w fun v w' => Ext w w' ∧ ∃ v0, v = .tuple #[v0, intV (failE s (sl.map (·.x)) x host)] ∧ OwnW w.heap.size v0 w' (failW s (sl.map (·.x)) x host) := by
  have hn : Now w := trivial
  have hx : Ext w w := Ext.refl w
  have hs' := hs.sk hB
  have hl' := hl.sk hB
  have hx' := hx0.sk hB
  have hS := hs'.2.2.2.2.2.2
  have hW := hl'.2.2
  have hX := hx'.2.2.2.2
  have hv2 := fun w' (h1 : Bl B w w') (h3 : B ≤ w'.heap.size) => ref13Valid h3 (hS w' h1) (hW w' h1) (hX w' h1)
  have hE1 : failOk s (sl.map (·.x)) x host = false → Hid (failE s (sl.map (·.x)) x host = 1 ∧ failW s (sl.map (·.x)) x host = noW) := fun h => by
    have e : failE s (sl.map (·.x)) x host = 1 := by simp [failE, h]
    exact ⟨e, by rw [failW, e]; rfl⟩
  have hE2 : failOk s (sl.map (·.x)) x host = true → (hostAt x host).phase = 4 → Hid (failE s (sl.map (·.x)) x host = 8 ∧ failW s (sl.map (·.x)) x host = noW) := fun h h2 => by
    have e : failE s (sl.map (·.x)) x host = 8 := by simp [failE, h, h2]
    exact ⟨e, by rw [failW, e]; rfl⟩
  have hE3 : failOk s (sl.map (·.x)) x host = true → ¬ (hostAt x host).phase = 4 → Hid (failE s (sl.map (·.x)) x host = 0 ∧ failW s (sl.map (·.x)) x host = ⟨x.hosts.set host.toNat ⟨4, (hostAt x host).firmware⟩, failL host x.replicas⟩) := fun h h2 => by
    have e : failE s (sl.map (·.x)) x host = 0 := by simp [failE, h, h2]
    exact ⟨e, by rw [failW, e]; rfl⟩
  have hok : failOk s (sl.map (·.x)) x host = (validB s (sl.map (·.x)) x && decide (0 ≤ host) && decide (host < x.hosts.length)) := rfl
  have hlen : failOk s (sl.map (·.x)) x host = true → Hid (x.hosts.length ≤ 1000000 ∧ x.replicas.length ≤ 1000000) := fail_len
  generalize failE s (sl.map (·.x)) x host = E at *
  generalize failW s (sl.map (·.x)) x host = W at *
  generalize failOk s (sl.map (·.x)) x host = ok at *
  generalize validB s (sl.map (·.x)) x = vb at *
  subst hok
  (refine callsV_of Tryz.func21 rfl (by kernel_rfl) (by kernel_rfl) ?_; rw [Tryz.results21])
  cases vb
  · obtain ⟨rfl, rfl⟩ := (hE1 (by simp)).out
    clear hE1 hE2 hE3 hlen
    (repeat' first
    | ((with_reducible refine at_row ?_); refine row1_k (by rfl) (by decide) fun _ _ _ _ _ _ _ => ?_)
    | with_reducible first | refine alloc_k fun _ _ _ _ _ _ => ?_ | refine row_k fun _ _ _ _ _ _ => ?_ | refine fork (fun _ => ?_) fun _ => ?_ | refine forkp (fun _ => ?_) fun _ => ?_ | refine forke (fun _ => ?_) fun _ _ => ?_ | refine tail_k fun _ _ _ => ?_ | refine ext_k fun _ _ _ => ?_ | refine need_a ?_ | refine st_agg (by kernel_rfl) rfl (by simp only [natV, intV, S3, *]) fun _ _ _ _ => ?_ | refine wpd_q_a ?_
    | ((with_reducible refine at_f 24 ?_); refine ret_k (hv2 _ FR FR) fun _ _ _ => ?_)
    | simp (maxDischargeDepth := 3) only [↓X, ↓Y, ↓Q, S1, ↓reduceIte, Nat.reduceEqDiff, Nat.reduceAdd, Int.reduceLT, Int.reduceLE, Int.reduceNeg, Int.reduceBEq, Int.reduceBNe, Int.reduceEq, Nat.reduceLeDiff, Nat.reduceMul, Nat.reduceLT, natV, intV, putAt, idxOk, flatP, *, siteC]
    | simp (singlePass := true) (maxDischargeDepth := 99) only [*, S2, Nat.reduceLT, siteC])
    all_goals exact ⟨_, rfl, OwnW.none _ _⟩
  by_cases h0 : host < 0
  · obtain ⟨rfl, rfl⟩ := (hE1 (by simp; omega)).out
    have h1 : decide (host < 0) = true := by simpa using h0
    clear hE1 hE2 hE3 hlen h0
    (repeat' first
    | ((with_reducible refine at_row ?_); refine row1_k (by rfl) (by decide) fun _ _ _ _ _ _ _ => ?_)
    | with_reducible first | refine alloc_k fun _ _ _ _ _ _ => ?_ | refine row_k fun _ _ _ _ _ _ => ?_ | refine fork (fun _ => ?_) fun _ => ?_ | refine forkp (fun _ => ?_) fun _ => ?_ | refine forke (fun _ => ?_) fun _ _ => ?_ | refine tail_k fun _ _ _ => ?_ | refine ext_k fun _ _ _ => ?_ | refine need_a ?_ | refine st_agg (by kernel_rfl) rfl (by simp only [natV, intV, S3, *]) fun _ _ _ _ => ?_ | refine wpd_q_a ?_
    | ((with_reducible refine at_f 24 ?_); refine ret_k (hv2 _ FR FR) fun _ _ _ => ?_)
    | simp (maxDischargeDepth := 3) only [↓X, ↓Y, ↓Q, S1, ↓reduceIte, Nat.reduceEqDiff, Nat.reduceAdd, Int.reduceLT, Int.reduceLE, Int.reduceNeg, Int.reduceBEq, Int.reduceBNe, Int.reduceEq, Nat.reduceLeDiff, Nat.reduceMul, Nat.reduceLT, natV, intV, putAt, idxOk, flatP, *, siteC]
    | simp (singlePass := true) (maxDischargeDepth := 99) only [*, S2, Nat.reduceLT, siteC])
    all_goals exact ⟨_, rfl, OwnW.none _ _⟩
  obtain ⟨h, rfl⟩ : ∃ h : Nat, host = h := ⟨host.toNat, by omega⟩
  by_cases hlt : h < x.hosts.length
  · have hat : hostAt x h = x.hosts[h] := by simp [hostAt, hlt]
    rw [hat] at hE2 hE3
    have hl2 := hlen (by simp [hlt])
    have hE2' := hE2 (by simp [hlt])
    have hE3' := hE3 (by simp [hlt])
    replace hE2' : Hid _ := hE2'
    replace hE3' : Hid _ := hE3'
    have hge : ¬ x.hosts.length ≤ h := by omega
    clear hE1 hE2 hE3 hlen hat h0
    by_cases hp : x.hosts[h].phase = 4
    · obtain ⟨rfl, rfl⟩ := (hE2'.out hp).out
      (repeat' first
    | ((with_reducible refine at_row ?_); refine row1_k (by rfl) (by decide) fun _ _ _ _ _ _ _ => ?_)
    | with_reducible first | refine alloc_k fun _ _ _ _ _ _ => ?_ | refine row_k fun _ _ _ _ _ _ => ?_ | refine fork (fun _ => ?_) fun _ => ?_ | refine forkp (fun _ => ?_) fun _ => ?_ | refine forke (fun _ => ?_) fun _ _ => ?_ | refine tail_k fun _ _ _ => ?_ | refine ext_k fun _ _ _ => ?_ | refine need_a ?_ | refine st_agg (by kernel_rfl) rfl (by simp only [natV, intV, S3, *]) fun _ _ _ _ => ?_ | refine wpd_q_a ?_
    | ((with_reducible refine at_f 24 ?_); refine ret_k (hv2 _ FR FR) fun _ _ _ => ?_)
    | simp (maxDischargeDepth := 3) only [↓X, ↓Y, ↓Q, S1, ↓reduceIte, Nat.reduceEqDiff, Nat.reduceAdd, Int.reduceLT, Int.reduceLE, Int.reduceNeg, Int.reduceBEq, Int.reduceBNe, Int.reduceEq, Nat.reduceLeDiff, Nat.reduceMul, Nat.reduceLT, natV, intV, putAt, idxOk, flatP, *, siteC, stateV]
    | simp (singlePass := true) (maxDischargeDepth := 99) only [*, S2, Nat.reduceLT, siteC, stateV])
      all_goals exact ⟨_, rfl, OwnW.none _ _⟩
    · obtain ⟨rfl, rfl⟩ := (hE3'.out hp).out
      have hp1 : (x.hosts[h].phase == 4) = false := by simpa using hp
      clear hE2' hE3'
      (repeat' first
    | ((with_reducible refine at_row ?_); refine row1_k (by rfl) (by decide) fun _ _ _ _ _ _ _ => ?_)
    | with_reducible first | refine alloc_k fun _ _ _ _ _ _ => ?_ | refine row_k fun _ _ _ _ _ _ => ?_ | refine fork (fun _ => ?_) fun _ => ?_ | refine forkp (fun _ => ?_) fun _ => ?_ | refine forke (fun _ => ?_) fun _ _ => ?_ | refine tail_k fun _ _ _ => ?_ | refine ext_k fun _ _ _ => ?_ | refine need_a ?_ | refine st_agg (by kernel_rfl) rfl (by simp only [natV, intV, S3, *]) fun _ _ _ _ => ?_ | refine wpd_q_a ?_
    | ((with_reducible refine at_f 24 ?_); refine ret_k (hv2 _ FR FR) fun _ _ _ => ?_)
    | simp (maxDischargeDepth := 3) only [↓X, ↓Y, ↓Q, S1, ↓reduceIte, Nat.reduceEqDiff, Nat.reduceAdd, Int.reduceLT, Int.reduceLE, Int.reduceNeg, Int.reduceBEq, Int.reduceBNe, Int.reduceEq, Nat.reduceLeDiff, Nat.reduceMul, Nat.reduceLT, natV, intV, putAt, idxOk, flatP, *, siteC, stateV]
    | simp (singlePass := true) (maxDischargeDepth := 99) only [*, S2, Nat.reduceLT, siteC, stateV])
      rename_i b4 v4 u4 k4 t4 q4 b5 v5 u5 k5 t5 q5 b6 v6 u6 k6 t6 q6 b8 v8 u8 k8 t8 q8 wv nv sv
      refine call_k (ref13Copy (B := B) FR (hX _ FR) (by have := hl2.out; omega)) ?_
      rintro _ w6 n6 s6 ⟨h6, r6, rfl, oh6, or6⟩
      have H6 := oh6.o
      have R6 := or6.o
      have f1 := (oh6.slN (f := stateC)).v (Nat.le_refl _)
      have f2 := (oh6.slN (f := stateC)).fv
      have fp := f2.1 h hlt
      clear oh6 or6
      (repeat' first
    | ((with_reducible refine at_row ?_); refine row1_k (by rfl) (by decide) fun _ _ _ _ _ _ _ => ?_)
    | with_reducible first | refine alloc_k fun _ _ _ _ _ _ => ?_ | refine row_k fun _ _ _ _ _ _ => ?_ | refine fork (fun _ => ?_) fun _ => ?_ | refine forkp (fun _ => ?_) fun _ => ?_ | refine forke (fun _ => ?_) fun _ _ => ?_ | refine tail_k fun _ _ _ => ?_ | refine ext_k fun _ _ _ => ?_ | refine need_a ?_ | refine st_agg (by kernel_rfl) rfl (by simp only [natV, intV, S3, *]) fun _ _ _ _ => ?_ | refine wpd_q_a ?_
    | simp (maxDischargeDepth := 3) only [↓X, ↓Y, ↓Q, S1, ↓reduceIte, Nat.reduceEqDiff, Nat.reduceAdd, Int.reduceLT, Int.reduceLE, Int.reduceNeg, Int.reduceBEq, Int.reduceBNe, Int.reduceEq, Nat.reduceLeDiff, Nat.reduceMul, Nat.reduceLT, natV, intV, putAt, idxOk, flatP, *, siteC, stateV]
    | simp (singlePass := true) (maxDischargeDepth := 99) only [*, S2, Nat.reduceLT, siteC, stateV])
      rename_i wA nA kA sA
      refine own_set1 (i := h) (off := 0) (by kernel_rfl) (H6.1 _ FR) (by simpa using hlt) (by decide) rfl fun b' wB nB eB hbB hlB hownB sB cB => ?_
      have hnew : OwnH wB wv.heap.size h6 (x.hosts.set h ⟨4, x.hosts[h].firmware⟩) := by
        have hh := hownB
        simp only [List.getElem_map, stateC, List.set_cons_zero] at hh
        show Own wB wv.heap.size _ 2 h6 ((x.hosts.set h ⟨4, x.hosts[h].firmware⟩).map stateC)
        rw [List.map_set]
        exact hh
      have hge : ∀ B, B ≤ wv.heap.size → B ≤ b' := fun B hb => Nat.le_trans hb hbB
      have hg1 : B ≤ b' := hge _ FR
      have hg2 : w.heap.size ≤ b' := hge _ FR
      have hne1 : ∀ b, b < wv.heap.size → ¬ b = b' := fun b hb => by omega
      have hrne : ¬ blockOf r6 = some b' := own_ne (H6.1 w6 FR) (R6.1 w6 FR) (by decide) eB
      have hrB : OwnP wB wv.heap.size r6 x.replicas := R6.1 wB FR
      have HB := hnew.o
      have RB := (hrB.slN (f := replC)).v (Nat.le_refl _)
      have RF := (hrB.slN (f := replC)).fv
      have h1 := hnew.one
      have r1 := hrB.one
      have hmax := hx0.r.max_
      have hl3 : Hid _ := hl2
      clear H6 R6 f1 f2 fp hownB eB hnew hl2 hrB
      (repeat' first
    | ((with_reducible refine at_row ?_); refine row1_k (by rfl) (by decide) fun _ _ _ _ _ _ _ => ?_)
    | with_reducible first | refine alloc_k fun _ _ _ _ _ _ => ?_ | refine row_k fun _ _ _ _ _ _ => ?_ | refine fork (fun _ => ?_) fun _ => ?_ | refine forkp (fun _ => ?_) fun _ => ?_ | refine forke (fun _ => ?_) fun _ _ => ?_ | refine tail_k fun _ _ _ => ?_ | refine ext_k fun _ _ _ => ?_ | refine need_a ?_ | refine st_agg (by kernel_rfl) rfl (by simp only [natV, intV, S3, *]) fun _ _ _ _ => ?_ | refine wpd_q_a ?_
    | simp (maxDischargeDepth := 3) only [↓X, ↓Y, ↓Q, S1, ↓reduceIte, Nat.reduceEqDiff, Nat.reduceAdd, Int.reduceLT, Int.reduceLE, Int.reduceNeg, Int.reduceBEq, Int.reduceBNe, Int.reduceEq, Nat.reduceLeDiff, Nat.reduceMul, Nat.reduceLT, natV, intV, putAt, idxOk, flatP, *, siteC, stateV]
    | simp (singlePass := true) (maxDischargeDepth := 99) only [*, S2, Nat.reduceLT, siteC, stateV])
      refine loop_o x.replicas.length (fun w0 g0 k g w' => g 11 = .int .i64 k ∧ (g 3 = g0 3 ∧ g 6 = g0 6 ∧ g 8 = g0 8 ∧ g 36 = g0 36) ∧ ∃ v, g 10 = v ∧ Own w' w0.heap.size 78 2 v ((failL h (x.replicas.take k)).map replC)) (by kernel_rfl) hmax ?_ ?_ ?_
      · (repeat' first
    | ((with_reducible refine at_row ?_); refine row1_k (by rfl) (by decide) fun _ _ _ _ _ _ _ => ?_)
    | with_reducible first | refine alloc_k fun _ _ _ _ _ _ => ?_ | refine row_k fun _ _ _ _ _ _ => ?_ | refine fork (fun _ => ?_) fun _ => ?_ | refine forkp (fun _ => ?_) fun _ => ?_ | refine forke (fun _ => ?_) fun _ _ => ?_ | refine tail_k fun _ _ _ => ?_ | refine ext_k fun _ _ _ => ?_ | refine need_a ?_ | refine st_agg (by kernel_rfl) rfl (by simp only [natV, intV, S3, *]) fun _ _ _ _ => ?_ | refine wpd_q_a ?_
    | simp (maxDischargeDepth := 3) only [↓X, ↓Y, ↓Q, S1, ↓reduceIte, Nat.reduceEqDiff, Nat.reduceAdd, Int.reduceLT, Int.reduceLE, Int.reduceNeg, Int.reduceBEq, Int.reduceBNe, Int.reduceEq, Nat.reduceLeDiff, Nat.reduceMul, Nat.reduceLT, natV, intV, putAt, idxOk, flatP, *]
    | simp (singlePass := true) (maxDischargeDepth := 99) only [*, S2, Nat.reduceLT])
        exact ⟨_, rfl, Own.nil _ _ _ _⟩
      · rintro k m g wk hk hlt2 nk sk bk hw ⟨hi, hf, v, hv5, hown⟩
        simp (maxDischargeDepth := 3) only [U, ↓reduceIte, Nat.reduceEqDiff, *] at hf
        have ht := failL_take hlt2 (h : Int)
        have bw : Bl wk.heap.size wk wk := Bl.refl (Nat.le_refl _)
        have O := hown.o
        have hle : (failL h (x.replicas.take k)).length ≤ k := Nat.le_trans (failL_len _ _) (by simp; omega)
        clear hown
        (repeat' first
    | ((with_reducible refine at_row ?_); refine row1_k (by rfl) (by decide) fun _ _ _ _ _ _ _ => ?_)
    | with_reducible first | refine alloc_k fun _ _ _ _ _ _ => ?_ | refine row_k fun _ _ _ _ _ _ => ?_ | refine fork (fun _ => ?_) fun _ => ?_ | refine forkp (fun _ => ?_) fun _ => ?_ | refine forke (fun _ => ?_) fun _ _ => ?_ | refine tail_k fun _ _ _ => ?_ | refine ext_k fun _ _ _ => ?_ | refine need_a ?_ | refine st_agg (by kernel_rfl) rfl (by simp only [natV, intV, S3, *]) fun _ _ _ _ => ?_ | refine wpd_q_a ?_
    | simp (maxDischargeDepth := 3) only [↓X, ↓Y, ↓Q, S1, ↓reduceIte, Nat.reduceEqDiff, Nat.reduceAdd, Int.reduceLT, Int.reduceLE, Int.reduceNeg, Int.reduceBEq, Int.reduceBNe, Int.reduceEq, Nat.reduceLeDiff, Nat.reduceMul, Nat.reduceLT, natV, intV, putAt, idxOk, flatP, *, replicaV, replC]
    | simp (singlePass := true) (maxDischargeDepth := 99) only [*, S2, Nat.reduceLT, replicaV, replC])
        · refine next_k hk hlt2 ?_ FR
          (repeat' first
    | ((with_reducible refine at_row ?_); refine row1_k (by rfl) (by decide) fun _ _ _ _ _ _ _ => ?_)
    | with_reducible first | refine alloc_k fun _ _ _ _ _ _ => ?_ | refine row_k fun _ _ _ _ _ _ => ?_ | refine fork (fun _ => ?_) fun _ => ?_ | refine forkp (fun _ => ?_) fun _ => ?_ | refine forke (fun _ => ?_) fun _ _ => ?_ | refine tail_k fun _ _ _ => ?_ | refine ext_k fun _ _ _ => ?_ | refine need_a ?_ | refine st_agg (by kernel_rfl) rfl (by simp only [natV, intV, S3, *]) fun _ _ _ _ => ?_ | refine wpd_q_a ?_
    | simp (maxDischargeDepth := 3) only [↓X, ↓Y, ↓Q, S1, ↓reduceIte, Nat.reduceEqDiff, Nat.reduceAdd, Int.reduceLT, Int.reduceLE, Int.reduceNeg, Int.reduceBEq, Int.reduceBNe, Int.reduceEq, Nat.reduceLeDiff, Nat.reduceMul, Nat.reduceLT, natV, intV, putAt, idxOk, flatP, *]
    | simp (singlePass := true) (maxDischargeDepth := 99) only [*, S2, Nat.reduceLT])
          exact ⟨_, rfl, O.1 _ FR⟩
        · rename_i b10 w10 n10 k10 s10 q10
          refine appP x.replicas[k] (O.1 _ FR) (k10.2.1 _ FR) (by have := hl3.out; omega) FR fun v' w9 n9 s9 hown9 => ?_
          (repeat' first
    | ((with_reducible refine at_row ?_); refine row1_k (by rfl) (by decide) fun _ _ _ _ _ _ _ => ?_)
    | with_reducible first | refine alloc_k fun _ _ _ _ _ _ => ?_ | refine row_k fun _ _ _ _ _ _ => ?_ | refine fork (fun _ => ?_) fun _ => ?_ | refine forkp (fun _ => ?_) fun _ => ?_ | refine forke (fun _ => ?_) fun _ _ => ?_ | refine tail_k fun _ _ _ => ?_ | refine ext_k fun _ _ _ => ?_ | refine need_a ?_ | refine st_agg (by kernel_rfl) rfl (by simp only [natV, intV, S3, *]) fun _ _ _ _ => ?_ | refine wpd_q_a ?_
    | simp (maxDischargeDepth := 3) only [↓X, ↓Y, ↓Q, S1, ↓reduceIte, Nat.reduceEqDiff, Nat.reduceAdd, Int.reduceLT, Int.reduceLE, Int.reduceNeg, Int.reduceBEq, Int.reduceBNe, Int.reduceEq, Nat.reduceLeDiff, Nat.reduceMul, Nat.reduceLT, natV, intV, putAt, idxOk, flatP, *]
    | simp (singlePass := true) (maxDischargeDepth := 99) only [*, S2, Nat.reduceLT])
          refine next_k hk hlt2 ?_ FR
          (repeat' first
    | ((with_reducible refine at_row ?_); refine row1_k (by rfl) (by decide) fun _ _ _ _ _ _ _ => ?_)
    | with_reducible first | refine alloc_k fun _ _ _ _ _ _ => ?_ | refine row_k fun _ _ _ _ _ _ => ?_ | refine fork (fun _ => ?_) fun _ => ?_ | refine forkp (fun _ => ?_) fun _ => ?_ | refine forke (fun _ => ?_) fun _ _ => ?_ | refine tail_k fun _ _ _ => ?_ | refine ext_k fun _ _ _ => ?_ | refine need_a ?_ | refine st_agg (by kernel_rfl) rfl (by simp only [natV, intV, S3, *]) fun _ _ _ _ => ?_ | refine wpd_q_a ?_
    | simp (maxDischargeDepth := 3) only [↓X, ↓Y, ↓Q, S1, ↓reduceIte, Nat.reduceEqDiff, Nat.reduceAdd, Int.reduceLT, Int.reduceLE, Int.reduceNeg, Int.reduceBEq, Int.reduceBNe, Int.reduceEq, Nat.reduceLeDiff, Nat.reduceMul, Nat.reduceLT, natV, intV, putAt, idxOk, flatP, *]
    | simp (singlePass := true) (maxDischargeDepth := 99) only [*, S2, Nat.reduceLT])
          exact ⟨_, rfl, hown9⟩
      · rintro g wk nk sk bk ⟨hi, hf, v, hv5, hown⟩
        simp (maxDischargeDepth := 3) only [U, ↓reduceIte, Nat.reduceEqDiff, *] at hf
        rw [take_all] at hown
        have O := hown.o
        clear hown
        (repeat' first
    | ((with_reducible refine at_row ?_); refine row1_k (by rfl) (by decide) fun _ _ _ _ _ _ _ => ?_)
    | with_reducible first | refine alloc_k fun _ _ _ _ _ _ => ?_ | refine row_k fun _ _ _ _ _ _ => ?_ | refine fork (fun _ => ?_) fun _ => ?_ | refine forkp (fun _ => ?_) fun _ => ?_ | refine forke (fun _ => ?_) fun _ _ => ?_ | refine tail_k fun _ _ _ => ?_ | refine ext_k fun _ _ _ => ?_ | refine need_a ?_ | refine st_agg (by kernel_rfl) rfl (by simp only [natV, intV, S3, *]) fun _ _ _ _ => ?_ | refine wpd_q_a ?_
    | simp (maxDischargeDepth := 3) only [↓X, ↓Y, ↓Q, S1, ↓reduceIte, Nat.reduceEqDiff, Nat.reduceAdd, Int.reduceLT, Int.reduceLE, Int.reduceNeg, Int.reduceBEq, Int.reduceBNe, Int.reduceEq, Nat.reduceLeDiff, Nat.reduceMul, Nat.reduceLT, natV, intV, putAt, idxOk, flatP, *]
    | simp (singlePass := true) (maxDischargeDepth := 99) only [*, S2, Nat.reduceLT])
        refine st_one (by kernel_rfl) (by simp) O.2.2.2.1 fun wD nD kD sD => ?_
        simp only [List.set_cons_zero, List.set_cons_succ] at kD
        (repeat' first
    | ((with_reducible refine at_row ?_); refine row1_k (by rfl) (by decide) fun _ _ _ _ _ _ _ => ?_)
    | with_reducible first | refine alloc_k fun _ _ _ _ _ _ => ?_ | refine row_k fun _ _ _ _ _ _ => ?_ | refine fork (fun _ => ?_) fun _ => ?_ | refine forkp (fun _ => ?_) fun _ => ?_ | refine forke (fun _ => ?_) fun _ _ => ?_ | refine tail_k fun _ _ _ => ?_ | refine ext_k fun _ _ _ => ?_ | refine need_a ?_ | refine st_agg (by kernel_rfl) rfl (by simp only [natV, intV, S3, *]) fun _ _ _ _ => ?_ | refine wpd_q_a ?_
    | simp (maxDischargeDepth := 3) only [↓X, ↓Y, ↓Q, S1, ↓reduceIte, Nat.reduceEqDiff, Nat.reduceAdd, Int.reduceLT, Int.reduceLE, Int.reduceNeg, Int.reduceBEq, Int.reduceBNe, Int.reduceEq, Nat.reduceLeDiff, Nat.reduceMul, Nat.reduceLT, natV, intV, putAt, idxOk, flatP, *, siteC]
    | simp (singlePass := true) (maxDischargeDepth := 99) only [*, S2, Nat.reduceLT, siteC])
        exact ⟨_, rfl, _, _, rfl, (HB.1 _ FR).more FR, (O.1 _ FR).more FR⟩
  · obtain ⟨rfl, rfl⟩ := (hE1 (by simp; omega)).out
    have h1 : x.hosts.length ≤ h := by omega
    clear hE1 hE2 hE3 hlen h0
    (repeat' first
    | ((with_reducible refine at_row ?_); refine row1_k (by rfl) (by decide) fun _ _ _ _ _ _ _ => ?_)
    | with_reducible first | refine alloc_k fun _ _ _ _ _ _ => ?_ | refine row_k fun _ _ _ _ _ _ => ?_ | refine fork (fun _ => ?_) fun _ => ?_ | refine forkp (fun _ => ?_) fun _ => ?_ | refine forke (fun _ => ?_) fun _ _ => ?_ | refine tail_k fun _ _ _ => ?_ | refine ext_k fun _ _ _ => ?_ | refine need_a ?_ | refine st_agg (by kernel_rfl) rfl (by simp only [natV, intV, S3, *]) fun _ _ _ _ => ?_ | refine wpd_q_a ?_
    | ((with_reducible refine at_f 24 ?_); refine ret_k (hv2 _ FR FR) fun _ _ _ => ?_)
    | simp (maxDischargeDepth := 3) only [↓X, ↓Y, ↓Q, S1, ↓reduceIte, Nat.reduceEqDiff, Nat.reduceAdd, Int.reduceLT, Int.reduceLE, Int.reduceNeg, Int.reduceBEq, Int.reduceBNe, Int.reduceEq, Nat.reduceLeDiff, Nat.reduceMul, Nat.reduceLT, natV, intV, putAt, idxOk, flatP, *, siteC]
    | simp (singlePass := true) (maxDischargeDepth := 99) only [*, S2, Nat.reduceLT, siteC])
    all_goals exact ⟨_, rfl, OwnW.none _ _⟩
end
end Go.Proofs.YtblegjdogmcgbaaGreat
