
/- The statement AgentFails. -/
import Derived.Test.YtblegjdogmcgbaaGreatLaw26a
import Derived.Test.YtblegjdogmcgbaaGreatAgent4
namespace Go.Proofs.YtblegjdogmcgbaaGreat
set_option linter.unusedSimpArgs false
set_option linter.unusedVariables false
open Go Go.RowKit
set_option maxRecDepth 100000
set_option linter.unusedSectionVars false
set_option maxHeartbeats 4000000
section
variable {w : World} {B : Nat} {u : SiteVs} {s : SiteD} {wv hv rv : Value} {sl : List SrvV} {x : WorldD}
theorem failW_len {wl : List ServiceD} {host : Int} (h : x.hosts.length ≤ 20 ∧ x.replicas.length ≤ 30) : (failW s wl x host).hosts.length ≤ 20 ∧ (failW s wl x host).replicas.length ≤ 30 := by
  unfold failW
  split
  · exact ⟨by simp only [List.length_set]; exact h.1, Nat.le_trans (List.length_filter_le _ _) h.2⟩
  · simp [noW]
theorem lawAgentFails {host : Int} (hB : B ≤ w.heap.size) (hs : SiteR w B u s) (hl : WishR w B wv sl) (hx0 : WorldR w B hv rv x) : Ret Tryz.prog 5 #[.agg (siteC u s).toArray, .agg #[wv], .agg #[hv, rv], intV host] w (.bool true) := by
  have hn : Now w := trivial
  have hx : Ext w w := Ext.refl w
  have hs' := hs.sk hB
  have hl' := hl.sk hB
  have hx' := hx0.sk hB
  have hS := hs'.2.2.2.2.2.2
  have hW := hl'.2.2
  have hX := hx'.2.2.2.2
  have hf := fun w' (h1 : Bl B w w') (h3 : B ≤ w'.heap.size) => few26 h3 (hS w' h1) (hW w' h1) (hX w' h1)
  have hfl : few26B s (sl.map (·.x)) x = true → Hid (x.hosts.length ≤ 20 ∧ x.replicas.length ≤ 30) := fun h => ⟨(few26_len h).1, (few26_len h).2.1⟩
  generalize few26B s (sl.map (·.x)) x = fb at hf hfl
  (refine callsV_of Tryz.func5 rfl (by kernel_rfl) (by kernel_rfl) ?_; rw [Tryz.results5])
  cases fb
  · (repeat' first
    | ((with_reducible refine at_row ?_); refine row1_k (by rfl) (by decide) fun _ _ _ _ _ _ _ => ?_)
    | with_reducible first | refine alloc_k fun _ _ _ _ _ _ => ?_ | refine row_k fun _ _ _ _ _ _ => ?_ | refine fork (fun _ => ?_) fun _ => ?_ | refine forkp (fun _ => ?_) fun _ => ?_ | refine forke (fun _ => ?_) fun _ _ => ?_ | refine tail_k fun _ _ _ => ?_ | refine ext_k fun _ _ _ => ?_ | refine need_a ?_ | refine st_agg (by kernel_rfl) rfl (by simp only [natV, intV, S3, *]) fun _ _ _ _ => ?_ | refine wpd_q_a ?_
    | ((with_reducible refine at_f 8 ?_); refine ret_k (hf _ FR FR) fun _ _ _ => ?_)
    | ((with_reducible refine at_f 9 ?_); refine ret_k (law26lives) fun _ _ _ => ?_)
    | simp (maxDischargeDepth := 3) only [↓X, ↓Y, ↓Q, S1, ↓reduceIte, Nat.reduceEqDiff, Nat.reduceAdd, Int.reduceLT, Int.reduceLE, Int.reduceNeg, Int.reduceBEq, Int.reduceBNe, Int.reduceEq, Nat.reduceLeDiff, Nat.reduceMul, Nat.reduceLT, natV, intV, putAt, idxOk, flatP, *, siteC]
    | simp (singlePass := true) (maxDischargeDepth := 99) only [*, S2, Nat.reduceLT, siteC])
  have hlen := hfl rfl
  clear hfl
  (repeat' first
    | ((with_reducible refine at_row ?_); refine row1_k (by rfl) (by decide) fun _ _ _ _ _ _ _ => ?_)
    | with_reducible first | refine alloc_k fun _ _ _ _ _ _ => ?_ | refine row_k fun _ _ _ _ _ _ => ?_ | refine fork (fun _ => ?_) fun _ => ?_ | refine forkp (fun _ => ?_) fun _ => ?_ | refine forke (fun _ => ?_) fun _ _ => ?_ | refine tail_k fun _ _ _ => ?_ | refine ext_k fun _ _ _ => ?_ | refine need_a ?_ | refine st_agg (by kernel_rfl) rfl (by simp only [natV, intV, S3, *]) fun _ _ _ _ => ?_ | refine wpd_q_a ?_
    | ((with_reducible refine at_f 8 ?_); refine ret_k (hf _ FR FR) fun _ _ _ => ?_)
    | simp (maxDischargeDepth := 3) only [↓X, ↓Y, ↓Q, S1, ↓reduceIte, Nat.reduceEqDiff, Nat.reduceAdd, Int.reduceLT, Int.reduceLE, Int.reduceNeg, Int.reduceBEq, Int.reduceBNe, Int.reduceEq, Nat.reduceLeDiff, Nat.reduceMul, Nat.reduceLT, natV, intV, putAt, idxOk, flatP, *, siteC]
    | simp (singlePass := true) (maxDischargeDepth := 99) only [*, S2, Nat.reduceLT, siteC])
  refine call_k (ref13Copy (B := B) FR (hX _ FR) (by have := hlen.out; omega)) ?_
  rintro _ wo no so oo
  obtain ⟨ho, ro, rfl, xo⟩ := oo.r
  have KO := xo.sk (Nat.le_refl _)
  clear oo xo
  (repeat' first
    | ((with_reducible refine at_row ?_); refine row1_k (by rfl) (by decide) fun _ _ _ _ _ _ _ => ?_)
    | with_reducible first | refine alloc_k fun _ _ _ _ _ _ => ?_ | refine row_k fun _ _ _ _ _ _ => ?_ | refine fork (fun _ => ?_) fun _ => ?_ | refine forkp (fun _ => ?_) fun _ => ?_ | refine forke (fun _ => ?_) fun _ _ => ?_ | refine tail_k fun _ _ _ => ?_ | refine ext_k fun _ _ _ => ?_ | refine need_a ?_ | refine st_agg (by kernel_rfl) rfl (by simp only [natV, intV, S3, *]) fun _ _ _ _ => ?_ | refine wpd_q_a ?_
    | simp (maxDischargeDepth := 3) only [↓X, ↓Y, ↓Q, S1, ↓reduceIte, Nat.reduceEqDiff, Nat.reduceAdd, Int.reduceLT, Int.reduceLE, Int.reduceNeg, Int.reduceBEq, Int.reduceBNe, Int.reduceEq, Nat.reduceLeDiff, Nat.reduceMul, Nat.reduceLT, natV, intV, putAt, idxOk, flatP, *, siteC]
    | simp (singlePass := true) (maxDischargeDepth := 99) only [*, S2, Nat.reduceLT, siteC])
  rename_i b4 v4 u4 k4 t4 q4 b5 v5 u5 k5 t5 q5 b6 v6 u6 k6 t6 q6 wf nf sf b9 v9 n9 k9 s9 q9 wL nL kL sL
  replace hS : Hid _ := hS
  replace hW : Hid _ := hW
  have hbL : Bl wL.heap.size wL wL := Bl.refl (Nat.le_refl _)
  refine call_k (agentFail (host := host) (Nat.le_refl _) ((hS.out _ FR).up FR) ((hW.out _ FR).up FR) ((hX _ FR).up FR)) ?_
  rintro _ w1 n1 s1 ⟨_, rfl, h1, r1, rfl, oh1, or1⟩
  have H1 := oh1.o
  have R1 := or1.o
  clear oh1 or1
  (repeat' first
    | ((with_reducible refine at_row ?_); refine row1_k (by rfl) (by decide) fun _ _ _ _ _ _ _ => ?_)
    | with_reducible first | refine alloc_k fun _ _ _ _ _ _ => ?_ | refine row_k fun _ _ _ _ _ _ => ?_ | refine fork (fun _ => ?_) fun _ => ?_ | refine forkp (fun _ => ?_) fun _ => ?_ | refine forke (fun _ => ?_) fun _ _ => ?_ | refine tail_k fun _ _ _ => ?_ | refine ext_k fun _ _ _ => ?_ | refine need_a ?_ | refine st_agg (by kernel_rfl) rfl (by simp only [natV, intV, S3, *]) fun _ _ _ _ => ?_ | refine wpd_q_a ?_
    | simp (maxDischargeDepth := 3) only [↓X, ↓Y, ↓Q, S1, ↓reduceIte, Nat.reduceEqDiff, Nat.reduceAdd, Int.reduceLT, Int.reduceLE, Int.reduceNeg, Int.reduceBEq, Int.reduceBNe, Int.reduceEq, Nat.reduceLeDiff, Nat.reduceMul, Nat.reduceLT, natV, intV, putAt, idxOk, flatP, *, siteC]
    | simp (singlePass := true) (maxDischargeDepth := 99) only [*, S2, Nat.reduceLT, siteC])
  refine call_k (ref26Fail (host := host) (Nat.le_refl _) ((hS.out _ FR).up FR) ((hW.out _ FR).up FR) ((hX _ FR).up FR)) ?_
  rintro _ w2 n2 s2 ⟨_, rfl, h2, r2, rfl, oh2, or2⟩
  have H2 := oh2.o
  have R2 := or2.o
  clear oh2 or2
  have hfl := failW_len (s := s) (wl := sl.map (·.x)) (host := host) hlen.out
  replace hfl : Hid _ := hfl
  generalize failW s (sl.map (·.x)) x host = D at *
  generalize failE s (sl.map (·.x)) x host = E at *
  (repeat' first
    | ((with_reducible refine at_row ?_); refine row1_k (by rfl) (by decide) fun _ _ _ _ _ _ _ => ?_)
    | with_reducible first | refine alloc_k fun _ _ _ _ _ _ => ?_ | refine row_k fun _ _ _ _ _ _ => ?_ | refine fork (fun _ => ?_) fun _ => ?_ | refine forkp (fun _ => ?_) fun _ => ?_ | refine forke (fun _ => ?_) fun _ _ => ?_ | refine tail_k fun _ _ _ => ?_ | refine ext_k fun _ _ _ => ?_ | refine need_a ?_ | refine st_agg (by kernel_rfl) rfl (by simp only [natV, intV, S3, *]) fun _ _ _ _ => ?_ | refine wpd_q_a ?_
    | simp (maxDischargeDepth := 3) only [↓X, ↓Y, ↓Q, S1, ↓reduceIte, Nat.reduceEqDiff, Nat.reduceAdd, Int.reduceLT, Int.reduceLE, Int.reduceNeg, Int.reduceBEq, Int.reduceBNe, Int.reduceEq, Nat.reduceLeDiff, Nat.reduceMul, Nat.reduceLT, natV, intV, putAt, idxOk, flatP, *, siteC]
    | simp (singlePass := true) (maxDischargeDepth := 99) only [*, S2, Nat.reduceLT, siteC])
  refine ret_k (ref13Same (Nat.le_refl _) (Nat.le_refl _) ⟨(H1.1 _ FR).slN (f := stateC), (R1.1 _ FR).slN (f := replC)⟩ ⟨(H2.1 _ FR).slN (f := stateC), (R2.1 _ FR).slN (f := replC)⟩) fun w6 n6 s6 => ?_
  rw [decide_eq_true rfl]
  (repeat' first
    | ((with_reducible refine at_row ?_); refine row1_k (by rfl) (by decide) fun _ _ _ _ _ _ _ => ?_)
    | with_reducible first | refine alloc_k fun _ _ _ _ _ _ => ?_ | refine row_k fun _ _ _ _ _ _ => ?_ | refine fork (fun _ => ?_) fun _ => ?_ | refine forkp (fun _ => ?_) fun _ => ?_ | refine forke (fun _ => ?_) fun _ _ => ?_ | refine tail_k fun _ _ _ => ?_ | refine ext_k fun _ _ _ => ?_ | refine need_a ?_ | refine st_agg (by kernel_rfl) rfl (by simp only [natV, intV, S3, *]) fun _ _ _ _ => ?_ | refine wpd_q_a ?_
    | simp (maxDischargeDepth := 3) only [↓X, ↓Y, ↓Q, S1, ↓reduceIte, Nat.reduceEqDiff, Nat.reduceAdd, Int.reduceLT, Int.reduceLE, Int.reduceNeg, Int.reduceBEq, Int.reduceBNe, Int.reduceEq, Nat.reduceLeDiff, Nat.reduceMul, Nat.reduceLT, natV, intV, putAt, idxOk, flatP, *]
    | simp (singlePass := true) (maxDischargeDepth := 99) only [*, S2, Nat.reduceLT])
  rename_i bA vA uA kA tA qA vB uB kB tB bC vC uC kC tC qC vD uD kD tD
  have hkp : Kp bA vB w6 := FR
  have hbl : Bl wL.heap.size wL w6 := FR
  have hbk := kB.2.1
  have J0 : Hid ((∃ hs : List StateD, hs.length = D.hosts.length ∧ OwnH w6 wL.heap.size h1 hs) ∧ (∃ rs : List ReplicaD, rs.length = D.replicas.length ∧ OwnP w6 wL.heap.size r1 rs)) := ⟨⟨_, rfl, H1.1 _ FR⟩, ⟨_, rfl, R1.1 _ FR⟩⟩
  have hrd : ∀ w', Kp bA vB w' → w'.cell? ⟨bA, 0, none⟩ = some h1 ∧ w'.cell? ⟨bA, 1, none⟩ = some r1 := fun w' hw => ⟨kB.1 w' hw 0, kB.1 w' hw 1⟩
  clear H1 R1 H2 R2 kB kA kC kD
  refine loop_g D.hosts.length (fun g0 j g w' => g 14 = .int .i64 j ∧ (g 6 = g0 6 ∧ g 9 = g0 9 ∧ g 10 = g0 10) ∧ Hid ((∃ hs : List StateD, hs.length = D.hosts.length ∧ OwnH w' wL.heap.size h1 hs) ∧ (∃ rs : List ReplicaD, rs.length = D.replicas.length ∧ OwnP w' wL.heap.size r1 rs) ∧ Bl wL.heap.size wL w' ∧ Kp bA vB w')) (by kernel_rfl) ?_ ?_ ?_
  · (repeat' first
    | ((with_reducible refine at_row ?_); refine row1_k (by rfl) (by decide) fun _ _ _ _ _ _ _ => ?_)
    | with_reducible first | refine alloc_k fun _ _ _ _ _ _ => ?_ | refine row_k fun _ _ _ _ _ _ => ?_ | refine fork (fun _ => ?_) fun _ => ?_ | refine forkp (fun _ => ?_) fun _ => ?_ | refine forke (fun _ => ?_) fun _ _ => ?_ | refine tail_k fun _ _ _ => ?_ | refine ext_k fun _ _ _ => ?_ | refine need_a ?_ | refine st_agg (by kernel_rfl) rfl (by simp only [natV, intV, S3, *]) fun _ _ _ _ => ?_ | refine wpd_q_a ?_
    | simp (maxDischargeDepth := 3) only [↓X, ↓Y, ↓Q, S1, ↓reduceIte, Nat.reduceEqDiff, Nat.reduceAdd, Int.reduceLT, Int.reduceLE, Int.reduceNeg, Int.reduceBEq, Int.reduceBNe, Int.reduceEq, Nat.reduceLeDiff, Nat.reduceMul, Nat.reduceLT, natV, intV, putAt, idxOk, flatP, *]
    | simp (singlePass := true) (maxDischargeDepth := 99) only [*, S2, Nat.reduceLT])
    all_goals exact ⟨J0.out.1, J0.out.2, hbl, hkp⟩
  · rintro j mj gj wj hj hjt nj ⟨hij, hfj, hJj⟩
    simp (maxDischargeDepth := 3) only [U, ↓reduceIte, Nat.reduceEqDiff, *] at hfj
    obtain ⟨⟨hs, hsl, hoo⟩, ⟨rs, rsl, oro⟩, hblj, hkpj⟩ := hJj.out
    have hjl : j < hs.length := by omega
    obtain ⟨c0, c1⟩ := hrd wj hkpj
    obtain ⟨f1, f2, f3, f4, f5, f6, f7, f8⟩ := (hoo.slN (f := stateC)).v (Nat.le_refl _)
    have hfv := (hoo.slN (f := stateC)).fv
    have hread : rdv none wj (addF (elemAt h1 2 j) 1) = some (.int .i64 hs[j].firmware) := hfv.2 wj f8 j hjl 1 (by decide)
    have hptr := hfv.1 j hjl
    rw [hsl] at f3
    have hb18 := hbk _ hkpj
    have hwj : IntKind.i64.wrap ((j : Int) + 1) = ((j + 1 : Nat) : Int) := by
      have := hfl.out
      rw [wrap_i64_id] <;> omega
    clear f6 f7 hfv
    (repeat' first
    | ((with_reducible refine at_row ?_); refine row1_k (by rfl) (by decide) fun _ _ _ _ _ _ _ => ?_)
    | with_reducible first | refine alloc_k fun _ _ _ _ _ _ => ?_ | refine row_k fun _ _ _ _ _ _ => ?_ | refine fork (fun _ => ?_) fun _ => ?_ | refine forkp (fun _ => ?_) fun _ => ?_ | refine forke (fun _ => ?_) fun _ _ => ?_ | refine tail_k fun _ _ _ => ?_ | refine ext_k fun _ _ _ => ?_ | refine need_a ?_ | refine st_agg (by kernel_rfl) rfl (by simp only [natV, intV, S3, *]) fun _ _ _ _ => ?_ | refine wpd_q_a ?_
    | simp (maxDischargeDepth := 3) only [↓X, ↓Y, ↓Q, S1, ↓reduceIte, Nat.reduceEqDiff, Nat.reduceAdd, Int.reduceLT, Int.reduceLE, Int.reduceNeg, Int.reduceBEq, Int.reduceBNe, Int.reduceEq, Nat.reduceLeDiff, Nat.reduceMul, Nat.reduceLT, natV, intV, putAt, idxOk, flatP, *]
    | simp (singlePass := true) (maxDischargeDepth := 99) only [*, S2, Nat.reduceLT])
    refine own_set1 (i := j) (off := 1) (by kernel_rfl) hoo (by simpa using hjl) (by decide) rfl fun b' w9 n9 e9 hb9 hl9 hown9 s9 c9 => ?_
    have hnew : OwnH w9 wL.heap.size h1 (hs.set j ⟨hs[j].phase, IntKind.i64.wrap (hs[j].firmware + 1)⟩) := by
      have h := hown9
      simp only [List.getElem_map, stateC, List.set_cons_succ, List.set_cons_zero] at h
      show Own w9 wL.heap.size _ 2 h1 ((hs.set j ⟨hs[j].phase, IntKind.i64.wrap (hs[j].firmware + 1)⟩).map stateC)
      rw [List.map_set]
      exact h
    have hrp : OwnP w9 wL.heap.size r1 rs := oro.chg c9 (by rw [← oro.block]; exact own_ne hoo oro (by decide) e9)
    have hbl9 : Bl wL.heap.size wL w9 := hblj.chg c9 hb9
    have hne9 : ¬ bA = b' := fun e => hoo.ne hb18 (by decide) (by rw [← hoo.block, e9, e])
    have hkp9 : Kp bA vB w9 := hkpj.chg c9 hne9
    have J9 : Hid ((∃ hs : List StateD, hs.length = D.hosts.length ∧ OwnH w9 wL.heap.size h1 hs) ∧ (∃ rs : List ReplicaD, rs.length = D.replicas.length ∧ OwnP w9 wL.heap.size r1 rs)) := ⟨⟨_, by rw [List.length_set]; exact hsl, hnew⟩, ⟨rs, rsl, hrp⟩⟩
    clear e9 hown9 hnew hoo hread hptr hrp oro hblj hkpj c0 c1 hb18
    (repeat' first
    | ((with_reducible refine at_row ?_); refine row1_k (by rfl) (by decide) fun _ _ _ _ _ _ _ => ?_)
    | with_reducible first | refine alloc_k fun _ _ _ _ _ _ => ?_ | refine row_k fun _ _ _ _ _ _ => ?_ | refine fork (fun _ => ?_) fun _ => ?_ | refine forkp (fun _ => ?_) fun _ => ?_ | refine forke (fun _ => ?_) fun _ _ => ?_ | refine tail_k fun _ _ _ => ?_ | refine ext_k fun _ _ _ => ?_ | refine need_a ?_ | refine st_agg (by kernel_rfl) rfl (by simp only [natV, intV, S3, *]) fun _ _ _ _ => ?_ | refine wpd_q_a ?_
    | simp (maxDischargeDepth := 3) only [↓X, ↓Y, ↓Q, S1, ↓reduceIte, Nat.reduceEqDiff, Nat.reduceAdd, Int.reduceLT, Int.reduceLE, Int.reduceNeg, Int.reduceBEq, Int.reduceBNe, Int.reduceEq, Nat.reduceLeDiff, Nat.reduceMul, Nat.reduceLT, natV, intV, putAt, idxOk, flatP, *]
    | simp (singlePass := true) (maxDischargeDepth := 99) only [*, S2, Nat.reduceLT])
    refine next_g hj hjt ?_
    (repeat' first
    | ((with_reducible refine at_row ?_); refine row1_k (by rfl) (by decide) fun _ _ _ _ _ _ _ => ?_)
    | with_reducible first | refine alloc_k fun _ _ _ _ _ _ => ?_ | refine row_k fun _ _ _ _ _ _ => ?_ | refine fork (fun _ => ?_) fun _ => ?_ | refine forkp (fun _ => ?_) fun _ => ?_ | refine forke (fun _ => ?_) fun _ _ => ?_ | refine tail_k fun _ _ _ => ?_ | refine ext_k fun _ _ _ => ?_ | refine need_a ?_ | refine st_agg (by kernel_rfl) rfl (by simp only [natV, intV, S3, *]) fun _ _ _ _ => ?_ | refine wpd_q_a ?_
    | simp (maxDischargeDepth := 3) only [↓X, ↓Y, ↓Q, S1, ↓reduceIte, Nat.reduceEqDiff, Nat.reduceAdd, Int.reduceLT, Int.reduceLE, Int.reduceNeg, Int.reduceBEq, Int.reduceBNe, Int.reduceEq, Nat.reduceLeDiff, Nat.reduceMul, Nat.reduceLT, natV, intV, putAt, idxOk, flatP, *]
    | simp (singlePass := true) (maxDischargeDepth := 99) only [*, S2, Nat.reduceLT])
    all_goals exact ⟨J9.out.1, J9.out.2, hbl9, hkp9⟩
  · rintro gj wj nj ⟨hij, hfj, hJj⟩
    simp (maxDischargeDepth := 3) only [U, ↓reduceIte, Nat.reduceEqDiff, *] at hfj
    obtain ⟨⟨hs, hsl, hoo⟩, ⟨rs, rsl, oro⟩, hblj, hkpj⟩ := hJj.out
    obtain ⟨c0, c1⟩ := hrd wj hkpj
    obtain ⟨f1, f2, f3, f4, f5, f6, f7, f8⟩ := (hoo.slN (f := stateC)).v (Nat.le_refl _)
    rw [hsl] at f3
    have hnl : ¬ D.hosts.length < D.hosts.length := Nat.lt_irrefl _
    have J1 : Hid (∃ rs : List ReplicaD, rs.length = D.replicas.length ∧ OwnP wj wL.heap.size r1 rs) := ⟨rs, rsl, oro⟩
    clear f6 f7 hoo oro
    (repeat' first
    | ((with_reducible refine at_row ?_); refine row1_k (by rfl) (by decide) fun _ _ _ _ _ _ _ => ?_)
    | with_reducible first | refine alloc_k fun _ _ _ _ _ _ => ?_ | refine row_k fun _ _ _ _ _ _ => ?_ | refine fork (fun _ => ?_) fun _ => ?_ | refine forkp (fun _ => ?_) fun _ => ?_ | refine forke (fun _ => ?_) fun _ _ => ?_ | refine tail_k fun _ _ _ => ?_ | refine ext_k fun _ _ _ => ?_ | refine need_a ?_ | refine st_agg (by kernel_rfl) rfl (by simp only [natV, intV, S3, *]) fun _ _ _ _ => ?_ | refine wpd_q_a ?_
    | simp (maxDischargeDepth := 3) only [↓X, ↓Y, ↓Q, S1, ↓reduceIte, Nat.reduceEqDiff, Nat.reduceAdd, Int.reduceLT, Int.reduceLE, Int.reduceNeg, Int.reduceBEq, Int.reduceBNe, Int.reduceEq, Nat.reduceLeDiff, Nat.reduceMul, Nat.reduceLT, natV, intV, putAt, idxOk, flatP, *]
    | simp (singlePass := true) (maxDischargeDepth := 99) only [*, S2, Nat.reduceLT])
    refine loop_g D.replicas.length (fun g0 j g w' => g 15 = .int .i64 j ∧ (g 6 = g0 6 ∧ g 9 = g0 9 ∧ g 10 = g0 10) ∧ Hid ((∃ rs : List ReplicaD, rs.length = D.replicas.length ∧ OwnP w' wL.heap.size r1 rs) ∧ Bl wL.heap.size wL w' ∧ Kp bA vB w')) (by kernel_rfl) ?_ ?_ ?_
    · (repeat' first
    | ((with_reducible refine at_row ?_); refine row1_k (by rfl) (by decide) fun _ _ _ _ _ _ _ => ?_)
    | with_reducible first | refine alloc_k fun _ _ _ _ _ _ => ?_ | refine row_k fun _ _ _ _ _ _ => ?_ | refine fork (fun _ => ?_) fun _ => ?_ | refine forkp (fun _ => ?_) fun _ => ?_ | refine forke (fun _ => ?_) fun _ _ => ?_ | refine tail_k fun _ _ _ => ?_ | refine ext_k fun _ _ _ => ?_ | refine need_a ?_ | refine st_agg (by kernel_rfl) rfl (by simp only [natV, intV, S3, *]) fun _ _ _ _ => ?_ | refine wpd_q_a ?_
    | simp (maxDischargeDepth := 3) only [↓X, ↓Y, ↓Q, S1, ↓reduceIte, Nat.reduceEqDiff, Nat.reduceAdd, Int.reduceLT, Int.reduceLE, Int.reduceNeg, Int.reduceBEq, Int.reduceBNe, Int.reduceEq, Nat.reduceLeDiff, Nat.reduceMul, Nat.reduceLT, natV, intV, putAt, idxOk, flatP, *]
    | simp (singlePass := true) (maxDischargeDepth := 99) only [*, S2, Nat.reduceLT])
      all_goals exact ⟨J1.out, hblj, hkpj⟩
    · clear hJj hsl f1 f2 f3 f4 f5 f8 c0 c1 hblj hkpj rsl
      rintro j mj gj wj hj hjt nj ⟨hij, hfj, hJj⟩
      simp (maxDischargeDepth := 3) only [U, ↓reduceIte, Nat.reduceEqDiff, *] at hfj
      obtain ⟨⟨rs, rsl, oro⟩, hblj, hkpj⟩ := hJj.out
      have hjl : j < rs.length := by omega
      obtain ⟨c0, c1⟩ := hrd wj hkpj
      obtain ⟨f1, f2, f3, f4, f5, f6, f7, f8⟩ := (oro.slN (f := replC)).v (Nat.le_refl _)
      have hfv := (oro.slN (f := replC)).fv
      have hread : rdv none wj (addF (elemAt r1 2 j) 1) = some (.int .i64 rs[j].host) := hfv.2 wj f8 j hjl 1 (by decide)
      have hptr := hfv.1 j hjl
      rw [rsl] at f3
      have hb18 := hbk _ hkpj
      have hwj : IntKind.i64.wrap ((j : Int) + 1) = ((j + 1 : Nat) : Int) := by
        have := hfl.out
        rw [wrap_i64_id] <;> omega
      clear f6 f7 hfv
      (repeat' first
    | ((with_reducible refine at_row ?_); refine row1_k (by rfl) (by decide) fun _ _ _ _ _ _ _ => ?_)
    | with_reducible first | refine alloc_k fun _ _ _ _ _ _ => ?_ | refine row_k fun _ _ _ _ _ _ => ?_ | refine fork (fun _ => ?_) fun _ => ?_ | refine forkp (fun _ => ?_) fun _ => ?_ | refine forke (fun _ => ?_) fun _ _ => ?_ | refine tail_k fun _ _ _ => ?_ | refine ext_k fun _ _ _ => ?_ | refine need_a ?_ | refine st_agg (by kernel_rfl) rfl (by simp only [natV, intV, S3, *]) fun _ _ _ _ => ?_ | refine wpd_q_a ?_
    | simp (maxDischargeDepth := 3) only [↓X, ↓Y, ↓Q, S1, ↓reduceIte, Nat.reduceEqDiff, Nat.reduceAdd, Int.reduceLT, Int.reduceLE, Int.reduceNeg, Int.reduceBEq, Int.reduceBNe, Int.reduceEq, Nat.reduceLeDiff, Nat.reduceMul, Nat.reduceLT, natV, intV, putAt, idxOk, flatP, *]
    | simp (singlePass := true) (maxDischargeDepth := 99) only [*, S2, Nat.reduceLT])
      refine own_set1 (i := j) (off := 1) (by kernel_rfl) oro (by simpa using hjl) (by decide) rfl fun b' w9 n9 e9 hb9 hl9 hown9 s9 c9 => ?_
      have hnew : OwnP w9 wL.heap.size r1 (rs.set j ⟨rs[j].service, IntKind.i64.wrap (rs[j].host + 1)⟩) := by
        have h := hown9
        simp only [List.getElem_map, replC, List.set_cons_succ, List.set_cons_zero] at h
        show Own w9 wL.heap.size _ 2 r1 ((rs.set j ⟨rs[j].service, IntKind.i64.wrap (rs[j].host + 1)⟩).map replC)
        rw [List.map_set]
        exact h
      have hbl9 : Bl wL.heap.size wL w9 := hblj.chg c9 hb9
      have hne9 : ¬ bA = b' := fun e => oro.ne hb18 (by decide) (by rw [← oro.block, e9, e])
      have hkp9 : Kp bA vB w9 := hkpj.chg c9 hne9
      have J9 : Hid (∃ rs : List ReplicaD, rs.length = D.replicas.length ∧ OwnP w9 wL.heap.size r1 rs) := ⟨_, by rw [List.length_set]; exact rsl, hnew⟩
      clear e9 hown9 hnew hread hptr oro hblj hkpj c0 c1 hb18
      (repeat' first
    | ((with_reducible refine at_row ?_); refine row1_k (by rfl) (by decide) fun _ _ _ _ _ _ _ => ?_)
    | with_reducible first | refine alloc_k fun _ _ _ _ _ _ => ?_ | refine row_k fun _ _ _ _ _ _ => ?_ | refine fork (fun _ => ?_) fun _ => ?_ | refine forkp (fun _ => ?_) fun _ => ?_ | refine forke (fun _ => ?_) fun _ _ => ?_ | refine tail_k fun _ _ _ => ?_ | refine ext_k fun _ _ _ => ?_ | refine need_a ?_ | refine st_agg (by kernel_rfl) rfl (by simp only [natV, intV, S3, *]) fun _ _ _ _ => ?_ | refine wpd_q_a ?_
    | simp (maxDischargeDepth := 3) only [↓X, ↓Y, ↓Q, S1, ↓reduceIte, Nat.reduceEqDiff, Nat.reduceAdd, Int.reduceLT, Int.reduceLE, Int.reduceNeg, Int.reduceBEq, Int.reduceBNe, Int.reduceEq, Nat.reduceLeDiff, Nat.reduceMul, Nat.reduceLT, natV, intV, putAt, idxOk, flatP, *]
    | simp (singlePass := true) (maxDischargeDepth := 99) only [*, S2, Nat.reduceLT])
      refine next_g hj hjt ?_
      (repeat' first
    | ((with_reducible refine at_row ?_); refine row1_k (by rfl) (by decide) fun _ _ _ _ _ _ _ => ?_)
    | with_reducible first | refine alloc_k fun _ _ _ _ _ _ => ?_ | refine row_k fun _ _ _ _ _ _ => ?_ | refine fork (fun _ => ?_) fun _ => ?_ | refine forkp (fun _ => ?_) fun _ => ?_ | refine forke (fun _ => ?_) fun _ _ => ?_ | refine tail_k fun _ _ _ => ?_ | refine ext_k fun _ _ _ => ?_ | refine need_a ?_ | refine st_agg (by kernel_rfl) rfl (by simp only [natV, intV, S3, *]) fun _ _ _ _ => ?_ | refine wpd_q_a ?_
    | simp (maxDischargeDepth := 3) only [↓X, ↓Y, ↓Q, S1, ↓reduceIte, Nat.reduceEqDiff, Nat.reduceAdd, Int.reduceLT, Int.reduceLE, Int.reduceNeg, Int.reduceBEq, Int.reduceBNe, Int.reduceEq, Nat.reduceLeDiff, Nat.reduceMul, Nat.reduceLT, natV, intV, putAt, idxOk, flatP, *]
    | simp (singlePass := true) (maxDischargeDepth := 99) only [*, S2, Nat.reduceLT])
      all_goals exact ⟨J9.out, hbl9, hkp9⟩
    · clear hJj hsl f1 f2 f3 f4 f5 f8 c0 c1 hblj hkpj rsl
      rintro gj wj nj ⟨hij, hfj, hJj⟩
      simp (maxDischargeDepth := 3) only [U, ↓reduceIte, Nat.reduceEqDiff, *] at hfj
      obtain ⟨⟨rs, rsl, oro⟩, hblj, hkpj⟩ := hJj.out
      obtain ⟨c0, c1⟩ := hrd wj hkpj
      obtain ⟨f1, f2, f3, f4, f5, f6, f7, f8⟩ := (oro.slN (f := replC)).v (Nat.le_refl _)
      rw [rsl] at f3
      have hnl2 : ¬ D.replicas.length < D.replicas.length := Nat.lt_irrefl _
      have sa1 := sa_of hblj.2
      clear f6 f7 oro
      (repeat' first
    | ((with_reducible refine at_row ?_); refine row1_k (by rfl) (by decide) fun _ _ _ _ _ _ _ => ?_)
    | with_reducible first | refine alloc_k fun _ _ _ _ _ _ => ?_ | refine row_k fun _ _ _ _ _ _ => ?_ | refine fork (fun _ => ?_) fun _ => ?_ | refine forkp (fun _ => ?_) fun _ => ?_ | refine forke (fun _ => ?_) fun _ _ => ?_ | refine tail_k fun _ _ _ => ?_ | refine ext_k fun _ _ _ => ?_ | refine need_a ?_ | refine st_agg (by kernel_rfl) rfl (by simp only [natV, intV, S3, *]) fun _ _ _ _ => ?_ | refine wpd_q_a ?_
    | ((with_reducible refine at_f 15 ?_); refine ret_k (ref13Same (B := B) (B' := wo.heap.size) FR FR (hX _ FR) (KO.2.2.2.2 _ FR)) fun _ _ _ => ?_)
    | ((with_reducible refine at_f 9 ?_); refine ret_k (law26lives) fun _ _ _ => ?_)
    | simp (maxDischargeDepth := 3) only [↓X, ↓Y, ↓Q, S1, ↓reduceIte, Nat.reduceEqDiff, Nat.reduceAdd, Int.reduceLT, Int.reduceLE, Int.reduceNeg, Int.reduceBEq, Int.reduceBNe, Int.reduceEq, Nat.reduceLeDiff, Nat.reduceMul, Nat.reduceLT, natV, intV, putAt, idxOk, flatP, *]
    | simp (singlePass := true) (maxDischargeDepth := 99) only [*, S2, Nat.reduceLT])

end
end Go.Proofs.YtblegjdogmcgbaaGreat
