
/- The examples of the statements on layer 19. -/
import Derived.Test.YtcdeeoakoljlpaaGreatStep4
import Derived.Test.YtcdeeoakoljlpaaGreatLive13
import Derived.Test.YtcdeeoakoljlpaaGreatSame13
namespace Go.Proofs.YtcdeeoakoljlpaaGreat
set_option linter.unusedSimpArgs false
set_option linter.unusedVariables false
open Go Go.RowKit
set_option maxRecDepth 100000
set_option linter.unusedSectionVars false
set_option maxHeartbeats 2000000
theorem step_eq {a b : StepD} : ((a.kind == b.kind) && ((a.host == b.host) && ((a.service == b.service) && (a.version == b.version)))) = decide (a = b) := by
  cases a; cases b
  rw [Bool.eq_iff_iff]; simp
section
variable {w : World} {B B' : Nat} {u : SiteVs} {s : SiteD} {wv hv rv : Value} {l : List SrvV} {x : WorldD} {st : StepD}
theorem ref19Same {v v' : Value} {a b : List StepD} (hB : B ≤ w.heap.size) (hB' : B' ≤ w.heap.size) (ha : Sl w B (some 4) 4 v (a.map stepV)) (hb : Sl w B' (some 4) 4 v' (b.map stepV)) : Ret Tryz.prog 18 #[v, v'] w (.bool (decide (a = b))) := by
  have hn : Now w := trivial
  have hx : Ext w w := Ext.refl w
  have ha' := ha.k hB
  have hb' := hb.k hB'
  (refine callsV_of Tryz.func18 rfl (by kernel_rfl) (by kernel_rfl) ?_; rw [Tryz.results18])
  (repeat' first
    | with_reducible refine alloc_k fun _ _ _ _ _ _ => ?_
    | ((with_reducible refine at_row ?_); refine row1_k (by rfl) (by decide) fun _ _ _ _ _ _ _ => ?_)
    | with_reducible refine row_k fun _ _ _ _ _ _ => ?_
    | with_reducible refine fork (fun _ => ?_) (fun _ => ?_)
    | with_reducible refine forkp (fun _ => ?_) (fun _ => ?_)
    | with_reducible refine forke (fun _ => ?_) (fun _ _ => ?_)
    | with_reducible refine tail_k fun _ _ _ => ?_
    | with_reducible refine ext_k fun _ _ _ => ?_
    | with_reducible refine need (by first | kernel_rfl | omega | assumption) ?_
    | with_reducible refine st_agg (by kernel_rfl) rfl (by simp only [natV, intV, S3, *]) fun _ _ _ _ => ?_
    | with_reducible refine wpd_quiet_lit (by kernel_rfl) (by kernel_rfl) (by kernel_rfl) ?_
    | simp (maxDischargeDepth := 3) only [↓X, ↓Y, ↓Q, S1, ↓reduceIte, Nat.reduceEqDiff, Nat.reduceAdd, Int.reduceLT, Int.reduceLE, Int.reduceNeg, Int.reduceBEq, Int.reduceBNe, Int.reduceEq, Nat.reduceLeDiff, Nat.reduceMul, Nat.reduceLT, natV, intV, putAt, idxOk, flatP, *]
    | simp (singlePass := true) (maxDischargeDepth := 99) only [*, S2, Nat.reduceLT])
  · rename_i h
    have hl : Hid (a.length = b.length) := h
    clear h
    refine loop_k (a.length) (fun g0 k g _ => g 5 = .int .i64 k ∧ (g 0 = g0 0 ∧ g 1 = g0 1) ∧ Hid (a.take k = b.take k)) (by kernel_rfl) (ha.max_) ?_ ?_ ?_
    · (repeat' first
    | with_reducible refine alloc_k fun _ _ _ _ _ _ => ?_
    | ((with_reducible refine at_row ?_); refine row1_k (by rfl) (by decide) fun _ _ _ _ _ _ _ => ?_)
    | with_reducible refine row_k fun _ _ _ _ _ _ => ?_
    | with_reducible refine fork (fun _ => ?_) (fun _ => ?_)
    | with_reducible refine forkp (fun _ => ?_) (fun _ => ?_)
    | with_reducible refine forke (fun _ => ?_) (fun _ _ => ?_)
    | with_reducible refine tail_k fun _ _ _ => ?_
    | with_reducible refine ext_k fun _ _ _ => ?_
    | with_reducible refine need (by first | kernel_rfl | omega | assumption) ?_
    | with_reducible refine st_agg (by kernel_rfl) rfl (by simp only [natV, intV, S3, *]) fun _ _ _ _ => ?_
    | with_reducible refine wpd_quiet_lit (by kernel_rfl) (by kernel_rfl) (by kernel_rfl) ?_
    | simp (maxDischargeDepth := 3) only [↓X, ↓Y, ↓Q, S1, ↓reduceIte, Nat.reduceEqDiff, Nat.reduceAdd, Int.reduceLT, Int.reduceLE, Int.reduceNeg, Int.reduceBEq, Int.reduceBNe, Int.reduceEq, Nat.reduceLeDiff, Nat.reduceMul, Nat.reduceLT, natV, intV, putAt, idxOk, flatP, *, List.take_zero, List.all_nil, List.any_nil]
    | simp (singlePass := true) (maxDischargeDepth := 99) only [*, S2, Nat.reduceLT, List.take_zero, List.all_nil, List.any_nil])
      exact trivial
    · rintro k m g wk hk hlt _ _ _ hw ⟨hi, hf, hp⟩
      simp (maxDischargeDepth := 3) only [U, ↓reduceIte, Nat.reduceEqDiff, *] at hf
      have hb2 : k < b.length := by have := hl.out; omega
      (repeat' first
    | with_reducible refine alloc_k fun _ _ _ _ _ _ => ?_
    | ((with_reducible refine at_row ?_); refine row1_k (by rfl) (by decide) fun _ _ _ _ _ _ _ => ?_)
    | with_reducible refine row_k fun _ _ _ _ _ _ => ?_
    | with_reducible refine fork (fun _ => ?_) (fun _ => ?_)
    | with_reducible refine forkp (fun _ => ?_) (fun _ => ?_)
    | with_reducible refine forke (fun _ => ?_) (fun _ _ => ?_)
    | with_reducible refine tail_k fun _ _ _ => ?_
    | with_reducible refine ext_k fun _ _ _ => ?_
    | with_reducible refine need (by first | kernel_rfl | omega | assumption) ?_
    | with_reducible refine st_agg (by kernel_rfl) rfl (by simp only [natV, intV, S3, *]) fun _ _ _ _ => ?_
    | with_reducible refine wpd_quiet_lit (by kernel_rfl) (by kernel_rfl) (by kernel_rfl) ?_
    | simp (maxDischargeDepth := 3) only [↓X, ↓Y, ↓Q, S1, ↓reduceIte, Nat.reduceEqDiff, Nat.reduceAdd, Int.reduceLT, Int.reduceLE, Int.reduceNeg, Int.reduceBEq, Int.reduceBNe, Int.reduceEq, Nat.reduceLeDiff, Nat.reduceMul, Nat.reduceLT, natV, intV, putAt, idxOk, flatP, *, stepV, stepC, step_eq, dec_not]
    | simp (singlePass := true) (maxDischargeDepth := 99) only [*, S2, Nat.reduceLT, stepV, stepC, step_eq, dec_not])
      · rename_i h
        refine next_k hk hlt ?_ FR
        (repeat' first
    | with_reducible refine alloc_k fun _ _ _ _ _ _ => ?_
    | ((with_reducible refine at_row ?_); refine row1_k (by rfl) (by decide) fun _ _ _ _ _ _ _ => ?_)
    | with_reducible refine row_k fun _ _ _ _ _ _ => ?_
    | with_reducible refine fork (fun _ => ?_) (fun _ => ?_)
    | with_reducible refine forkp (fun _ => ?_) (fun _ => ?_)
    | with_reducible refine forke (fun _ => ?_) (fun _ _ => ?_)
    | with_reducible refine tail_k fun _ _ _ => ?_
    | with_reducible refine ext_k fun _ _ _ => ?_
    | with_reducible refine need (by first | kernel_rfl | omega | assumption) ?_
    | with_reducible refine st_agg (by kernel_rfl) rfl (by simp only [natV, intV, S3, *]) fun _ _ _ _ => ?_
    | with_reducible refine wpd_quiet_lit (by kernel_rfl) (by kernel_rfl) (by kernel_rfl) ?_
    | simp (maxDischargeDepth := 3) only [↓X, ↓Y, ↓Q, S1, ↓reduceIte, Nat.reduceEqDiff, Nat.reduceAdd, Int.reduceLT, Int.reduceLE, Int.reduceNeg, Int.reduceBEq, Int.reduceBNe, Int.reduceEq, Nat.reduceLeDiff, Nat.reduceMul, Nat.reduceLT, natV, intV, putAt, idxOk, flatP, *]
    | simp (singlePass := true) (maxDischargeDepth := 99) only [*, S2, Nat.reduceLT])
        exact take_next hp.out hlt hb2 h
      · rename_i h
        have : ¬ a = b := by rintro rfl; exact h rfl
        simp [this]
    · rintro g wk _ _ _ ⟨hi, hf, hp⟩
      simp (maxDischargeDepth := 3) only [U, ↓reduceIte, Nat.reduceEqDiff, *] at hf
      (repeat' first
    | with_reducible refine alloc_k fun _ _ _ _ _ _ => ?_
    | ((with_reducible refine at_row ?_); refine row1_k (by rfl) (by decide) fun _ _ _ _ _ _ _ => ?_)
    | with_reducible refine row_k fun _ _ _ _ _ _ => ?_
    | with_reducible refine fork (fun _ => ?_) (fun _ => ?_)
    | with_reducible refine forkp (fun _ => ?_) (fun _ => ?_)
    | with_reducible refine forke (fun _ => ?_) (fun _ _ => ?_)
    | with_reducible refine tail_k fun _ _ _ => ?_
    | with_reducible refine ext_k fun _ _ _ => ?_
    | with_reducible refine need (by first | kernel_rfl | omega | assumption) ?_
    | with_reducible refine st_agg (by kernel_rfl) rfl (by simp only [natV, intV, S3, *]) fun _ _ _ _ => ?_
    | with_reducible refine wpd_quiet_lit (by kernel_rfl) (by kernel_rfl) (by kernel_rfl) ?_
    | simp (maxDischargeDepth := 3) only [↓X, ↓Y, ↓Q, S1, ↓reduceIte, Nat.reduceEqDiff, Nat.reduceAdd, Int.reduceLT, Int.reduceLE, Int.reduceNeg, Int.reduceBEq, Int.reduceBNe, Int.reduceEq, Nat.reduceLeDiff, Nat.reduceMul, Nat.reduceLT, natV, intV, putAt, idxOk, flatP, *]
    | simp (singlePass := true) (maxDischargeDepth := 99) only [*, S2, Nat.reduceLT])
      have hp := hp.out
      simp [take_full hp hl.out]
  · rename_i h
    have : ¬ a = b := by rintro rfl; exact h rfl
    simp [this]
def srvEx19 : ServiceD := ⟨1, 1, 0, 0, 0, [], [], 0⟩
def worldEx19 : WorldD := ⟨[⟨0, 0⟩, ⟨0, 0⟩, ⟨0, 0⟩], [⟨0, 0⟩]⟩
theorem lawSite19 {w : World} : CallsV Tryz.prog 20 #[] w fun r w' => Ext w w' ∧ ∃ u, r = .agg (siteC u siteEx).toArray ∧ SiteR w' w'.heap.size u siteEx := by
  have hn : Now w := trivial
  have hx : Ext w w := Ext.refl w
  (refine callsV_of Tryz.func20 rfl (by kernel_rfl) (by kernel_rfl) ?_; rw [Tryz.results20])
  (repeat' first
    | with_reducible refine alloc_k fun _ _ _ _ _ _ => ?_
    | ((with_reducible refine at_row ?_); refine row1_k (by rfl) (by decide) fun _ _ _ _ _ _ _ => ?_)
    | with_reducible refine row_k fun _ _ _ _ _ _ => ?_
    | with_reducible refine fork (fun _ => ?_) (fun _ => ?_)
    | with_reducible refine forkp (fun _ => ?_) (fun _ => ?_)
    | with_reducible refine forke (fun _ => ?_) (fun _ _ => ?_)
    | with_reducible refine tail_k fun _ _ _ => ?_
    | with_reducible refine ext_k fun _ _ _ => ?_
    | with_reducible refine need (by first | kernel_rfl | omega | assumption) ?_
    | with_reducible refine st_agg (by kernel_rfl) rfl (by simp only [natV, intV, S3, *]) fun _ _ _ _ => ?_
    | with_reducible refine wpd_quiet_lit (by kernel_rfl) (by kernel_rfl) (by kernel_rfl) ?_
    | simp (maxDischargeDepth := 3) only [↓X, ↓Y, ↓Q, S1, ↓reduceIte, Nat.reduceEqDiff, Nat.reduceAdd, Int.reduceLT, Int.reduceLE, Int.reduceNeg, Int.reduceBEq, Int.reduceBNe, Int.reduceEq, Nat.reduceLeDiff, Nat.reduceMul, Nat.reduceLT, natV, intV, putAt, idxOk, flatP, *]
    | simp (singlePass := true) (maxDischargeDepth := 99) only [*, S2, Nat.reduceLT])
  rename_i b0 v0 n0 k0 s0 q0 b1 v1 n1 k1 s1 q1 l1 b2 v2 n2 k2 s2 q2 b3 v3 n3 k3 s3 q3 b4 v4 n4 k4 s4 q4 b5 v5 n5 k5 s5 q5 w6 n6 k6 s6
  refine ⟨⟨.slice (some ⟨b1, 0, none⟩) 1 1, .slice (some ⟨b2, 0, none⟩) 1 1, .slice (some ⟨b3, 0, none⟩) 1 1, .slice (some ⟨b4, 0, none⟩) 2 2, .slice none 0 0, .slice (some ⟨b5, 0, none⟩) 3 3⟩, rfl, ?_⟩
  exact ⟨row_of (l := [[intV 1000]]) (k1.2.1 _ FR) rfl rfl (by simp) (by simp), row_of (l := [[intV 0, intV 500, intV 0, intV 0]]) (k2.2.1 _ FR) rfl rfl (by simp) (by simp), row_of (l := [[intV 1000, intV 0]]) (k3.2.1 _ FR) rfl rfl (by simp) (by simp),
    row_of (l := [[intV 0, intV 0, intV 0, intV 0], [intV 2, intV 0, intV 0, intV 0]]) (k4.2.1 _ FR) rfl rfl (by simp) (by simp), Sl.nil _ _ _ _, row_of (l := [[intV 0, intV 4, intV 0, intV 0], [intV 0, intV 4, intV 0, intV 0], [intV 1, intV 4, intV 0, intV 0]]) (k5.2.1 _ FR) rfl rfl (by simp) (by simp)⟩
theorem lawWish19 {w : World} : CallsV Tryz.prog 21 #[] w fun r w' => Ext w w' ∧ ∃ (v : Value) (l : List SrvV), r = .agg #[v] ∧ WishR w' w'.heap.size v l ∧ l.map (·.x) = [srvEx19] := by
  have hn : Now w := trivial
  have hx : Ext w w := Ext.refl w
  (refine callsV_of Tryz.func21 rfl (by kernel_rfl) (by kernel_rfl) ?_; rw [Tryz.results21])
  (repeat' first
    | with_reducible refine alloc_k fun _ _ _ _ _ _ => ?_
    | ((with_reducible refine at_row ?_); refine row1_k (by rfl) (by decide) fun _ _ _ _ _ _ _ => ?_)
    | with_reducible refine row_k fun _ _ _ _ _ _ => ?_
    | with_reducible refine fork (fun _ => ?_) (fun _ => ?_)
    | with_reducible refine forkp (fun _ => ?_) (fun _ => ?_)
    | with_reducible refine forke (fun _ => ?_) (fun _ _ => ?_)
    | with_reducible refine tail_k fun _ _ _ => ?_
    | with_reducible refine ext_k fun _ _ _ => ?_
    | with_reducible refine need (by first | kernel_rfl | omega | assumption) ?_
    | with_reducible refine st_agg (by kernel_rfl) rfl (by simp only [natV, intV, S3, *]) fun _ _ _ _ => ?_
    | with_reducible refine wpd_quiet_lit (by kernel_rfl) (by kernel_rfl) (by kernel_rfl) ?_
    | simp (maxDischargeDepth := 3) only [↓X, ↓Y, ↓Q, S1, ↓reduceIte, Nat.reduceEqDiff, Nat.reduceAdd, Int.reduceLT, Int.reduceLE, Int.reduceNeg, Int.reduceBEq, Int.reduceBNe, Int.reduceEq, Nat.reduceLeDiff, Nat.reduceMul, Nat.reduceLT, natV, intV, putAt, idxOk, flatP, *]
    | simp (singlePass := true) (maxDischargeDepth := 99) only [*, S2, Nat.reduceLT])
  rename_i b0 v0 n0 k0 s0 q0 b1 v1 n1 k1 s1 q1 w6 n6 k6 s6
  refine ⟨_, [⟨srvEx19, .slice none 0 0, .slice none 0 0⟩], rfl, ⟨?_, ?_, ?_⟩, rfl⟩
  · exact row_of (l := [[intV 1, intV 1, intV 0, .int .u8 0, intV 0, .slice none 0 0, .slice none 0 0, intV 0]]) (k1.2.1 _ FR) rfl rfl (by simp) (by simp)
  · intro u hu
    simp only [List.mem_cons, List.not_mem_nil, or_false] at hu
    rcases hu with rfl <;> exact Sl.nil _ _ _ _
  · intro u hu
    simp only [List.mem_cons, List.not_mem_nil, or_false] at hu
    rcases hu with rfl <;> exact Sl.nil _ _ _ _
theorem lawWorld19 {w : World} : CallsV Tryz.prog 22 #[] w fun r w' => Ext w w' ∧ OwnW w.heap.size r w' worldEx19 := by
  have hn : Now w := trivial
  have hx : Ext w w := Ext.refl w
  (refine callsV_of Tryz.func22 rfl (by kernel_rfl) (by kernel_rfl) ?_; rw [Tryz.results22])
  (repeat' first
    | with_reducible refine alloc_k fun _ _ _ _ _ _ => ?_
    | ((with_reducible refine at_row ?_); refine row1_k (by rfl) (by decide) fun _ _ _ _ _ _ _ => ?_)
    | with_reducible refine row_k fun _ _ _ _ _ _ => ?_
    | with_reducible refine fork (fun _ => ?_) (fun _ => ?_)
    | with_reducible refine forkp (fun _ => ?_) (fun _ => ?_)
    | with_reducible refine forke (fun _ => ?_) (fun _ _ => ?_)
    | with_reducible refine tail_k fun _ _ _ => ?_
    | with_reducible refine ext_k fun _ _ _ => ?_
    | with_reducible refine need (by first | kernel_rfl | omega | assumption) ?_
    | with_reducible refine st_agg (by kernel_rfl) rfl (by simp only [natV, intV, S3, *]) fun _ _ _ _ => ?_
    | with_reducible refine wpd_quiet_lit (by kernel_rfl) (by kernel_rfl) (by kernel_rfl) ?_
    | simp (maxDischargeDepth := 3) only [↓X, ↓Y, ↓Q, S1, ↓reduceIte, Nat.reduceEqDiff, Nat.reduceAdd, Int.reduceLT, Int.reduceLE, Int.reduceNeg, Int.reduceBEq, Int.reduceBNe, Int.reduceEq, Nat.reduceLeDiff, Nat.reduceMul, Nat.reduceLT, natV, intV, putAt, idxOk, flatP, *]
    | simp (singlePass := true) (maxDischargeDepth := 99) only [*, S2, Nat.reduceLT])
  refine mk_own_k (n := 3) (z := .agg #[.int .u8 0, .int .i64 0]) rfl (by decide) (by decide) (by decide) fun b1 w1 n1 hb1 s1 nw1 => ?_
  have k1 := hb1.bk
  clear hb1
  (repeat' first
    | with_reducible refine alloc_k fun _ _ _ _ _ _ => ?_
    | ((with_reducible refine at_row ?_); refine row1_k (by rfl) (by decide) fun _ _ _ _ _ _ _ => ?_)
    | with_reducible refine row_k fun _ _ _ _ _ _ => ?_
    | with_reducible refine fork (fun _ => ?_) (fun _ => ?_)
    | with_reducible refine forkp (fun _ => ?_) (fun _ => ?_)
    | with_reducible refine forke (fun _ => ?_) (fun _ _ => ?_)
    | with_reducible refine tail_k fun _ _ _ => ?_
    | with_reducible refine ext_k fun _ _ _ => ?_
    | with_reducible refine need (by first | kernel_rfl | omega | assumption) ?_
    | with_reducible refine st_agg (by kernel_rfl) rfl (by simp only [natV, intV, S3, *]) fun _ _ _ _ => ?_
    | with_reducible refine wpd_quiet_lit (by kernel_rfl) (by kernel_rfl) (by kernel_rfl) ?_
    | simp (maxDischargeDepth := 3) only [↓X, ↓Y, ↓Q, S1, ↓reduceIte, Nat.reduceEqDiff, Nat.reduceAdd, Int.reduceLT, Int.reduceLE, Int.reduceNeg, Int.reduceBEq, Int.reduceBNe, Int.reduceEq, Nat.reduceLeDiff, Nat.reduceMul, Nat.reduceLT, natV, intV, putAt, idxOk, flatP, *]
    | simp (singlePass := true) (maxDischargeDepth := 99) only [*, S2, Nat.reduceLT])
  rename_i b0 v0 n0 k0 s0 q0 b2 v2 n2 k2 s2 q2 w6 n6 k6 s6
  refine ⟨_, _, rfl, ?_, ?_⟩
  · exact Own.ofBlkN (cs := [[.int .u8 0, intV 0], [.int .u8 0, intV 0], [.int .u8 0, intV 0]]) rfl (k1.2.1 _ FR) (by simp) FR (by simp)
  · exact Own.ofBlkN (cs := [[intV 0, intV 0]]) rfl (k2.2.1 _ FR) (by simp) FR (by simp)
def few19B (s : SiteD) (wl : List ServiceD) (x : WorldD) : Bool := decide (s.feeds.length ≤ 60) && decide (s.breakers.length ≤ 60) && decide (s.loops.length ≤ 60) && decide (s.racks.length ≤ 60) && decide (s.links.length ≤ 60) && decide (s.hosts.length ≤ 60) && decide (wl.length ≤ 60) && decide (x.hosts.length ≤ 60) && decide (x.replicas.length ≤ 60)
theorem few19_no {s : SiteD} {wl : List ServiceD} {x : WorldD} (h : 60 < s.feeds.length ∨ 60 < s.breakers.length ∨ 60 < s.loops.length ∨ 60 < s.racks.length ∨ 60 < s.links.length ∨ 60 < s.hosts.length ∨ 60 < wl.length ∨ 60 < x.hosts.length ∨ 60 < x.replicas.length) : few19B s wl x = false := by
  rw [← Bool.not_eq_true]
  intro h2
  simp only [few19B, Bool.and_eq_true, decide_eq_true_eq] at h2
  omega
theorem few19_yes {s : SiteD} {wl : List ServiceD} {x : WorldD} (h : s.feeds.length ≤ 60 ∧ s.breakers.length ≤ 60 ∧ s.loops.length ≤ 60 ∧ s.racks.length ≤ 60 ∧ s.links.length ≤ 60 ∧ s.hosts.length ≤ 60 ∧ wl.length ≤ 60 ∧ x.hosts.length ≤ 60 ∧ x.replicas.length ≤ 60) : few19B s wl x = true := by
  simp only [few19B, h, decide_true, Bool.true_and]
theorem few19_len {s : SiteD} {wl : List ServiceD} {x : WorldD} (h : few19B s wl x = true) : x.hosts.length ≤ 60 ∧ x.replicas.length ≤ 60 := by
  simp only [few19B, Bool.and_eq_true, decide_eq_true_eq] at h
  omega
theorem few19 (hB : B ≤ w.heap.size) (hs : SiteR w B u s) (hl : WishR w B wv l) (hx0 : WorldR w B hv rv x) : Ret Tryz.prog 6 #[.agg (siteC u s).toArray, .agg #[wv], .agg #[hv, rv]] w (.bool (few19B s (l.map (·.x)) x)) := by
  have hn : Now w := trivial
  have hx : Ext w w := Ext.refl w
  have hs' := hs.sk hB
  have hl' := hl.sk hB
  have hx' := hx0.sk hB
  (refine callsV_of Tryz.func6 rfl (by kernel_rfl) (by kernel_rfl) ?_; rw [Tryz.results6])
  (repeat' first
    | with_reducible refine alloc_k fun _ _ _ _ _ _ => ?_
    | ((with_reducible refine at_row ?_); refine row1_k (by rfl) (by decide) fun _ _ _ _ _ _ _ => ?_)
    | with_reducible refine row_k fun _ _ _ _ _ _ => ?_
    | with_reducible refine fork (fun _ => ?_) (fun _ => ?_)
    | with_reducible refine forkp (fun _ => ?_) (fun _ => ?_)
    | with_reducible refine forke (fun _ => ?_) (fun _ _ => ?_)
    | with_reducible refine tail_k fun _ _ _ => ?_
    | with_reducible refine ext_k fun _ _ _ => ?_
    | with_reducible refine need (by first | kernel_rfl | omega | assumption) ?_
    | with_reducible refine st_agg (by kernel_rfl) rfl (by simp only [natV, intV, S3, *]) fun _ _ _ _ => ?_
    | with_reducible refine wpd_quiet_lit (by kernel_rfl) (by kernel_rfl) (by kernel_rfl) ?_
    | simp (maxDischargeDepth := 3) only [↓X, ↓Y, ↓Q, S1, ↓reduceIte, Nat.reduceEqDiff, Nat.reduceAdd, Int.reduceLT, Int.reduceLE, Int.reduceNeg, Int.reduceBEq, Int.reduceBNe, Int.reduceEq, Nat.reduceLeDiff, Nat.reduceMul, Nat.reduceLT, natV, intV, putAt, idxOk, flatP, *, siteC]
    | simp (singlePass := true) (maxDischargeDepth := 99) only [*, S2, Nat.reduceLT, siteC])
  all_goals first
    | (rw [few19_no (by simp only [List.length_map]; omega)]; done)
    | (rcases Nat.lt_or_ge 60 x.replicas.length with h60 | h60
       · rw [few19_no (by simp only [List.length_map]; omega), decide_eq_false (by omega)]
       · rw [few19_yes (by simp only [List.length_map]; omega), decide_eq_true (by omega)])
def worldEx19d : WorldD := ⟨[⟨1, 0⟩, ⟨0, 0⟩, ⟨0, 0⟩], [⟨0, 0⟩]⟩
theorem ex19_drain : applyE siteEx [srvEx19] worldEx19 ⟨3, 0, 0, 0⟩ = 0 ∧ applyW siteEx [srvEx19] worldEx19 ⟨3, 0, 0, 0⟩ = worldEx19d := by decide
theorem ex19_undo : applyE siteEx [srvEx19] worldEx19d ⟨2, 0, 0, 0⟩ = 0 ∧ lastB siteEx [srvEx19] worldEx19d ⟨2, 0, 0, 0⟩ = false ∧ undoL siteEx [srvEx19] worldEx19d ⟨2, 0, 0, 0⟩ = [⟨6, 0, 0, 0⟩, ⟨1, 0, 0, 0⟩, ⟨3, 0, 0, 0⟩] := by decide
theorem ex19_ready : readyB siteEx [srvEx19] worldEx19 ⟨1, 1, 0, 0⟩ = true := by decide
theorem SiteR.now {w w' : World} {u : SiteVs} {s : SiteD} (h : SiteR w w.heap.size u s) (hx : Ext w w') : SiteR w' w'.heap.size u s := (h.ext hx (Nat.le_refl _)).up hx.size
theorem WishR.now {w w' : World} {v : Value} {l : List SrvV} (h : WishR w w.heap.size v l) (hx : Ext w w') : WishR w' w'.heap.size v l := (h.ext hx (Nat.le_refl _)).up hx.size
theorem live19 {w : World} : Ret Tryz.prog 7 #[] w (.bool true) := by
  have hn : Now w := trivial
  have hx : Ext w w := Ext.refl w
  (refine callsV_of Tryz.func7 rfl (by kernel_rfl) (by kernel_rfl) ?_; rw [Tryz.results7])
  (repeat' first
    | with_reducible refine alloc_k fun _ _ _ _ _ _ => ?_
    | ((with_reducible refine at_row ?_); refine row1_k (by rfl) (by decide) fun _ _ _ _ _ _ _ => ?_)
    | with_reducible refine row_k fun _ _ _ _ _ _ => ?_
    | with_reducible refine fork (fun _ => ?_) (fun _ => ?_)
    | with_reducible refine forkp (fun _ => ?_) (fun _ => ?_)
    | with_reducible refine forke (fun _ => ?_) (fun _ _ => ?_)
    | with_reducible refine tail_k fun _ _ _ => ?_
    | with_reducible refine ext_k fun _ _ _ => ?_
    | with_reducible refine need (by first | kernel_rfl | omega | assumption) ?_
    | with_reducible refine st_agg (by kernel_rfl) rfl (by simp only [natV, intV, S3, *]) fun _ _ _ _ => ?_
    | with_reducible refine wpd_quiet_lit (by kernel_rfl) (by kernel_rfl) (by kernel_rfl) ?_
    | simp (maxDischargeDepth := 3) only [↓X, ↓Y, ↓Q, S1, ↓reduceIte, Nat.reduceEqDiff, Nat.reduceAdd, Int.reduceLT, Int.reduceLE, Int.reduceNeg, Int.reduceBEq, Int.reduceBNe, Int.reduceEq, Nat.reduceLeDiff, Nat.reduceMul, Nat.reduceLT, natV, intV, putAt, idxOk, flatP, *]
    | simp (singlePass := true) (maxDischargeDepth := 99) only [*, S2, Nat.reduceLT])
  refine call_k lawSite19 ?_
  rintro _ w1 n1 s1 ⟨u1, rfl, a1⟩
  have S1' := a1.sk (Nat.le_refl _)
  (repeat' first
    | with_reducible refine alloc_k fun _ _ _ _ _ _ => ?_
    | ((with_reducible refine at_row ?_); refine row1_k (by rfl) (by decide) fun _ _ _ _ _ _ _ => ?_)
    | with_reducible refine row_k fun _ _ _ _ _ _ => ?_
    | with_reducible refine fork (fun _ => ?_) (fun _ => ?_)
    | with_reducible refine forkp (fun _ => ?_) (fun _ => ?_)
    | with_reducible refine forke (fun _ => ?_) (fun _ _ => ?_)
    | with_reducible refine tail_k fun _ _ _ => ?_
    | with_reducible refine ext_k fun _ _ _ => ?_
    | with_reducible refine need (by first | kernel_rfl | omega | assumption) ?_
    | with_reducible refine st_agg (by kernel_rfl) rfl (by simp only [natV, intV, S3, *]) fun _ _ _ _ => ?_
    | with_reducible refine wpd_quiet_lit (by kernel_rfl) (by kernel_rfl) (by kernel_rfl) ?_
    | simp (maxDischargeDepth := 3) only [↓X, ↓Y, ↓Q, S1, ↓reduceIte, Nat.reduceEqDiff, Nat.reduceAdd, Int.reduceLT, Int.reduceLE, Int.reduceNeg, Int.reduceBEq, Int.reduceBNe, Int.reduceEq, Nat.reduceLeDiff, Nat.reduceMul, Nat.reduceLT, natV, intV, putAt, idxOk, flatP, *]
    | simp (singlePass := true) (maxDischargeDepth := 99) only [*, S2, Nat.reduceLT])
  refine call_k lawWish19 ?_
  rintro _ w2 n2 s2 ⟨v2, l2, rfl, a2, e2⟩
  have W2 := a2.sk (Nat.le_refl _)
  (repeat' first
    | with_reducible refine alloc_k fun _ _ _ _ _ _ => ?_
    | ((with_reducible refine at_row ?_); refine row1_k (by rfl) (by decide) fun _ _ _ _ _ _ _ => ?_)
    | with_reducible refine row_k fun _ _ _ _ _ _ => ?_
    | with_reducible refine fork (fun _ => ?_) (fun _ => ?_)
    | with_reducible refine forkp (fun _ => ?_) (fun _ => ?_)
    | with_reducible refine forke (fun _ => ?_) (fun _ _ => ?_)
    | with_reducible refine tail_k fun _ _ _ => ?_
    | with_reducible refine ext_k fun _ _ _ => ?_
    | with_reducible refine need (by first | kernel_rfl | omega | assumption) ?_
    | with_reducible refine st_agg (by kernel_rfl) rfl (by simp only [natV, intV, S3, *]) fun _ _ _ _ => ?_
    | with_reducible refine wpd_quiet_lit (by kernel_rfl) (by kernel_rfl) (by kernel_rfl) ?_
    | simp (maxDischargeDepth := 3) only [↓X, ↓Y, ↓Q, S1, ↓reduceIte, Nat.reduceEqDiff, Nat.reduceAdd, Int.reduceLT, Int.reduceLE, Int.reduceNeg, Int.reduceBEq, Int.reduceBNe, Int.reduceEq, Nat.reduceLeDiff, Nat.reduceMul, Nat.reduceLT, natV, intV, putAt, idxOk, flatP, *]
    | simp (singlePass := true) (maxDischargeDepth := 99) only [*, S2, Nat.reduceLT])
  refine call_k lawWorld19 ?_
  rintro _ w3 n3 s3 o3
  obtain ⟨h3, r3, rfl, x3⟩ := o3.r
  have X3 := x3.sk (Nat.le_refl _)
  clear o3 x3 a1 a2
  (repeat' first
    | with_reducible refine alloc_k fun _ _ _ _ _ _ => ?_
    | ((with_reducible refine at_row ?_); refine row1_k (by rfl) (by decide) fun _ _ _ _ _ _ _ => ?_)
    | with_reducible refine row_k fun _ _ _ _ _ _ => ?_
    | with_reducible refine fork (fun _ => ?_) (fun _ => ?_)
    | with_reducible refine forkp (fun _ => ?_) (fun _ => ?_)
    | with_reducible refine forke (fun _ => ?_) (fun _ _ => ?_)
    | with_reducible refine tail_k fun _ _ _ => ?_
    | with_reducible refine ext_k fun _ _ _ => ?_
    | with_reducible refine need (by first | kernel_rfl | omega | assumption) ?_
    | with_reducible refine st_agg (by kernel_rfl) rfl (by simp only [natV, intV, S3, *]) fun _ _ _ _ => ?_
    | with_reducible refine wpd_quiet_lit (by kernel_rfl) (by kernel_rfl) (by kernel_rfl) ?_
    | simp (maxDischargeDepth := 3) only [↓X, ↓Y, ↓Q, S1, ↓reduceIte, Nat.reduceEqDiff, Nat.reduceAdd, Int.reduceLT, Int.reduceLE, Int.reduceNeg, Int.reduceBEq, Int.reduceBNe, Int.reduceEq, Nat.reduceLeDiff, Nat.reduceMul, Nat.reduceLT, natV, intV, putAt, idxOk, flatP, *]
    | simp (singlePass := true) (maxDischargeDepth := 99) only [*, S2, Nat.reduceLT])
  refine call_k (stepApply (st := ⟨3, 0, 0, 0⟩) (Nat.le_refl _) ((S1'.2.2.2.2.2.2 _ FR).up FR) ((W2.2.2 _ FR).up FR) (X3.2.2.2.2 _ FR)) ?_
  rintro _ w4 n4 s4 ⟨u4, rfl, o4⟩
  rw [e2, ex19_drain.2] at o4
  rw [e2, ex19_drain.1]
  obtain ⟨h4, r4, rfl, x4⟩ := o4.r
  have X4 := x4.sk (Nat.le_refl _)
  clear o4 x4 S1' W2 X3 e2
  (repeat' first
    | ((with_reducible refine wpd_at 2 ?_); refine wpd_hold ?_)
    | with_reducible refine alloc_k fun _ _ _ _ _ _ => ?_
    | ((with_reducible refine at_row ?_); refine row1_k (by rfl) (by decide) fun _ _ _ _ _ _ _ => ?_)
    | with_reducible refine row_k fun _ _ _ _ _ _ => ?_
    | with_reducible refine fork (fun _ => ?_) (fun _ => ?_)
    | with_reducible refine forkp (fun _ => ?_) (fun _ => ?_)
    | with_reducible refine forke (fun _ => ?_) (fun _ _ => ?_)
    | with_reducible refine tail_k fun _ _ _ => ?_
    | with_reducible refine ext_k fun _ _ _ => ?_
    | with_reducible refine need (by first | kernel_rfl | omega | assumption) ?_
    | with_reducible refine st_agg (by kernel_rfl) rfl (by simp only [natV, intV, S3, *]) fun _ _ _ _ => ?_
    | with_reducible refine wpd_quiet_lit (by kernel_rfl) (by kernel_rfl) (by kernel_rfl) ?_
    | simp (maxDischargeDepth := 3) only [↓X, ↓Y, ↓Q, S1, ↓reduceIte, Nat.reduceEqDiff, Nat.reduceAdd, Int.reduceLT, Int.reduceLE, Int.reduceNeg, Int.reduceBEq, Int.reduceBNe, Int.reduceEq, Nat.reduceLeDiff, Nat.reduceMul, Nat.reduceLT, natV, intV, putAt, idxOk, flatP, *]
    | simp (singlePass := true) (maxDischargeDepth := 99) only [*, S2, Nat.reduceLT])
  rename_i b5 w5 n5 k5 s5 q5 w6 n6 k6 s6
  unfold wpdH
  refine wpd_rel 11 (fun iI v w9 => match iI with
    | 0 => ∃ us, v = .agg (siteC us siteEx).toArray ∧ SiteR w9 w9.heap.size us siteEx
    | 1 => ∃ (v0 : Value) (l : List SrvV), v = .agg #[v0] ∧ WishR w9 w9.heap.size v0 l ∧ l.map (·.x) = [srvEx19]
    | 2 => v = .agg #[h4, r4]
    | 3 => v = stepV ⟨2, 0, 0, 0⟩
    | 4 => ∃ v0, v = .tuple #[v0, .bool false, intV 0] ∧ Own w9 w6.heap.size 39 4 v0 (([⟨6, 0, 0, 0⟩, ⟨1, 0, 0, 0⟩, ⟨3, 0, 0, 0⟩] : List StepD).map stepC)
    | 5 => ∃ v0, v = .tuple #[v0, .bool false, intV 0] ∧ Own w9 w6.heap.size 39 4 v0 (([⟨6, 0, 0, 0⟩, ⟨1, 0, 0, 0⟩, ⟨3, 0, 0, 0⟩] : List StepD).map stepC)
    | 6 => Own w9 w6.heap.size 39 4 v (([⟨6, 0, 0, 0⟩, ⟨1, 0, 0, 0⟩, ⟨3, 0, 0, 0⟩] : List StepD).map stepC)
    | 7 => v = .bool false
    | 8 => v = intV 0
    | 9 => Own w9 w6.heap.size 39 4 v (([⟨6, 0, 0, 0⟩, ⟨1, 0, 0, 0⟩, ⟨3, 0, 0, 0⟩] : List StepD).map stepC)
    | 10 => v = .bool false
    | _ => False) (by kernel_rfl) (by kernel_rfl) (by kernel_rfl) ?_ ?_ ?_
  · intro iI v w1 w2 hR hx9
    match iI, hR with
    | 0, h => exact (let ⟨us, e, o⟩ := h; ⟨us, e, o.now hx9⟩)
    | 1, h => exact (let ⟨v, l, e, o, e2⟩ := h; ⟨v, l, e, o.now hx9, e2⟩)
    | 2, h => exact h
    | 3, h => exact h
    | 4, h => exact (let ⟨v, e, o⟩ := h; ⟨v, e, o.ext hx9⟩)
    | 5, h => exact (let ⟨v, e, o⟩ := h; ⟨v, e, o.ext hx9⟩)
    | 6, h => exact Own.ext h hx9
    | 7, h => exact h
    | 8, h => exact h
    | 9, h => exact Own.ext h hx9
    | 10, h => exact h
  · intro iI oO hi ho gF w9 hx9 hdep hag
    have s9 := hx9.st
    have n9 : Now w9 := trivial
    have r9 := Ext.refl w9
    have z9 := hx9.size
    rcases iI with _|_|_|_|_|_|_|_|_|_|_|iI
    · have e := Option.some.inj ho
      subst e
      clear hag hdep ho
      refine relStep_off rfl ?_
      (repeat' first
    | with_reducible refine alloc_k fun _ _ _ _ _ _ => ?_
    | ((with_reducible refine at_row ?_); refine row1_k (by rfl) (by decide) fun _ _ _ _ _ _ _ => ?_)
    | with_reducible refine row_k fun _ _ _ _ _ _ => ?_
    | with_reducible refine fork (fun _ => ?_) (fun _ => ?_)
    | with_reducible refine forkp (fun _ => ?_) (fun _ => ?_)
    | with_reducible refine forke (fun _ => ?_) (fun _ _ => ?_)
    | with_reducible refine tail_k fun _ _ _ => ?_
    | with_reducible refine ext_k fun _ _ _ => ?_
    | with_reducible refine need (by first | kernel_rfl | omega | assumption) ?_
    | with_reducible refine st_agg (by kernel_rfl) rfl (by simp only [natV, intV, S3, *]) fun _ _ _ _ => ?_
    | with_reducible refine wpd_quiet_lit (by kernel_rfl) (by kernel_rfl) (by kernel_rfl) ?_
    | simp (maxDischargeDepth := 3) only [↓X, ↓Y, ↓Q, S1, ↓reduceIte, Nat.reduceEqDiff, Nat.reduceAdd, Int.reduceLT, Int.reduceLE, Int.reduceNeg, Int.reduceBEq, Int.reduceBNe, Int.reduceEq, Nat.reduceLeDiff, Nat.reduceMul, Nat.reduceLT, natV, intV, putAt, idxOk, flatP, *, stepV, stepC]
    | simp (singlePass := true) (maxDischargeDepth := 99) only [*, S2, Nat.reduceLT, stepV, stepC])
      refine CallsV.mono lawSite19 fun v w10 hh => ⟨hh.1, hh.2⟩
    · have e := Option.some.inj ho
      subst e
      clear hag hdep ho
      refine relStep_off rfl ?_
      (repeat' first
    | with_reducible refine alloc_k fun _ _ _ _ _ _ => ?_
    | ((with_reducible refine at_row ?_); refine row1_k (by rfl) (by decide) fun _ _ _ _ _ _ _ => ?_)
    | with_reducible refine row_k fun _ _ _ _ _ _ => ?_
    | with_reducible refine fork (fun _ => ?_) (fun _ => ?_)
    | with_reducible refine forkp (fun _ => ?_) (fun _ => ?_)
    | with_reducible refine forke (fun _ => ?_) (fun _ _ => ?_)
    | with_reducible refine tail_k fun _ _ _ => ?_
    | with_reducible refine ext_k fun _ _ _ => ?_
    | with_reducible refine need (by first | kernel_rfl | omega | assumption) ?_
    | with_reducible refine st_agg (by kernel_rfl) rfl (by simp only [natV, intV, S3, *]) fun _ _ _ _ => ?_
    | with_reducible refine wpd_quiet_lit (by kernel_rfl) (by kernel_rfl) (by kernel_rfl) ?_
    | simp (maxDischargeDepth := 3) only [↓X, ↓Y, ↓Q, S1, ↓reduceIte, Nat.reduceEqDiff, Nat.reduceAdd, Int.reduceLT, Int.reduceLE, Int.reduceNeg, Int.reduceBEq, Int.reduceBNe, Int.reduceEq, Nat.reduceLeDiff, Nat.reduceMul, Nat.reduceLT, natV, intV, putAt, idxOk, flatP, *, stepV, stepC]
    | simp (singlePass := true) (maxDischargeDepth := 99) only [*, S2, Nat.reduceLT, stepV, stepC])
      refine CallsV.mono lawWish19 fun _ w10 hh => ⟨hh.1, hh.2⟩
    have e := Option.some.inj ho
    subst e
    have a1 := hag.at 1 (by kernel_rfl)
    simp only [U, ↓reduceIte, Nat.reduceEqDiff, initF, U2, List.getElem?_cons_zero, List.getElem?_cons_succ, *] at a1
    clear hag hdep ho
    refine relStep_off rfl ?_
    rotate_left
    have e := Option.some.inj ho
    subst e
    clear hag hdep ho
    refine relStep_off rfl ?_
    rotate_left
    · have e := Option.some.inj ho
      subst e
      have d0 : ∃ us, (gF 15) = .agg (siteC us siteEx).toArray ∧ SiteR w9 w9.heap.size us siteEx := hdep ⟨0, .data⟩ (by simp) rfl _ _ rfl rfl
      obtain ⟨us0, e0, hs0⟩ := d0
      have d1 : ∃ (v0 : Value) (l : List SrvV), (gF 16) = .agg #[v0] ∧ WishR w9 w9.heap.size v0 l ∧ l.map (·.x) = [srvEx19] := hdep ⟨1, .data⟩ (by simp) rfl _ _ rfl rfl
      obtain ⟨wv1, wl1, e1, hw1, el1⟩ := d1
      have d2 : (gF 17) = .agg #[h4, r4] := hdep ⟨2, .data⟩ (by simp) rfl _ _ rfl rfl
      have d3 : (gF 18) = stepV ⟨2, 0, 0, 0⟩ := hdep ⟨3, .data⟩ (by simp) rfl _ _ rfl rfl
      clear hag hdep ho
      refine relStep_off rfl ?_
      (repeat' first
    | with_reducible refine alloc_k fun _ _ _ _ _ _ => ?_
    | ((with_reducible refine at_row ?_); refine row1_k (by rfl) (by decide) fun _ _ _ _ _ _ _ => ?_)
    | with_reducible refine row_k fun _ _ _ _ _ _ => ?_
    | with_reducible refine fork (fun _ => ?_) (fun _ => ?_)
    | with_reducible refine forkp (fun _ => ?_) (fun _ => ?_)
    | with_reducible refine forke (fun _ => ?_) (fun _ _ => ?_)
    | with_reducible refine tail_k fun _ _ _ => ?_
    | with_reducible refine ext_k fun _ _ _ => ?_
    | with_reducible refine need (by first | kernel_rfl | omega | assumption) ?_
    | with_reducible refine st_agg (by kernel_rfl) rfl (by simp only [natV, intV, S3, *]) fun _ _ _ _ => ?_
    | with_reducible refine wpd_quiet_lit (by kernel_rfl) (by kernel_rfl) (by kernel_rfl) ?_
    | simp (maxDischargeDepth := 3) only [↓X, ↓Y, ↓Q, S1, ↓reduceIte, Nat.reduceEqDiff, Nat.reduceAdd, Int.reduceLT, Int.reduceLE, Int.reduceNeg, Int.reduceBEq, Int.reduceBNe, Int.reduceEq, Nat.reduceLeDiff, Nat.reduceMul, Nat.reduceLT, natV, intV, putAt, idxOk, flatP, *, stepV, stepC]
    | simp (singlePass := true) (maxDischargeDepth := 99) only [*, S2, Nat.reduceLT, stepV, stepC])
      refine CallsV.mono (stepUndo (st := ⟨2, 0, 0, 0⟩) (Nat.le_refl _) hs0 hw1 ((X4.2.2.2.2 _ FR).up FR)) fun v w10 hh => ⟨hh.1, ?_⟩
      obtain ⟨_, v0, rfl, ho⟩ := hh
      rw [el1, ex19_undo.2.2] at ho
      exact ⟨v0, by rw [el1, ex19_undo.1, ex19_undo.2.1]; rfl, ho.more z9⟩
    · have e := Option.some.inj ho
      subst e
      have d4 : ∃ v0, (gF 19) = .tuple #[v0, .bool false, intV 0] ∧ Own w9 w6.heap.size 39 4 v0 (([⟨6, 0, 0, 0⟩, ⟨1, 0, 0, 0⟩, ⟨3, 0, 0, 0⟩] : List StepD).map stepC) := hdep ⟨4, .data⟩ (by simp) rfl _ _ rfl rfl
      obtain ⟨v4, e4, o4⟩ := d4
      clear hag hdep ho
      refine relStep_off rfl ?_
      (repeat' first
    | with_reducible refine alloc_k fun _ _ _ _ _ _ => ?_
    | ((with_reducible refine at_row ?_); refine row1_k (by rfl) (by decide) fun _ _ _ _ _ _ _ => ?_)
    | with_reducible refine row_k fun _ _ _ _ _ _ => ?_
    | with_reducible refine fork (fun _ => ?_) (fun _ => ?_)
    | with_reducible refine forkp (fun _ => ?_) (fun _ => ?_)
    | with_reducible refine forke (fun _ => ?_) (fun _ _ => ?_)
    | with_reducible refine tail_k fun _ _ _ => ?_
    | with_reducible refine ext_k fun _ _ _ => ?_
    | with_reducible refine need (by first | kernel_rfl | omega | assumption) ?_
    | with_reducible refine st_agg (by kernel_rfl) rfl (by simp only [natV, intV, S3, *]) fun _ _ _ _ => ?_
    | with_reducible refine wpd_quiet_lit (by kernel_rfl) (by kernel_rfl) (by kernel_rfl) ?_
    | simp (maxDischargeDepth := 3) only [↓X, ↓Y, ↓Q, S1, ↓reduceIte, Nat.reduceEqDiff, Nat.reduceAdd, Int.reduceLT, Int.reduceLE, Int.reduceNeg, Int.reduceBEq, Int.reduceBNe, Int.reduceEq, Nat.reduceLeDiff, Nat.reduceMul, Nat.reduceLT, natV, intV, putAt, idxOk, flatP, *, stepV, stepC]
    | simp (singlePass := true) (maxDischargeDepth := 99) only [*, S2, Nat.reduceLT, stepV, stepC])
      exact ⟨v4, rfl, o4⟩
    · have e := Option.some.inj ho
      subst e
      have d5 : ∃ v0, (gF 14) = .tuple #[v0, .bool false, intV 0] ∧ Own w9 w6.heap.size 39 4 v0 (([⟨6, 0, 0, 0⟩, ⟨1, 0, 0, 0⟩, ⟨3, 0, 0, 0⟩] : List StepD).map stepC) := hdep ⟨5, .data⟩ (by simp) rfl _ _ rfl rfl
      obtain ⟨v5, e5, o5⟩ := d5
      clear hag hdep ho
      refine relStep_off rfl ?_
      (repeat' first
    | with_reducible refine alloc_k fun _ _ _ _ _ _ => ?_
    | ((with_reducible refine at_row ?_); refine row1_k (by rfl) (by decide) fun _ _ _ _ _ _ _ => ?_)
    | with_reducible refine row_k fun _ _ _ _ _ _ => ?_
    | with_reducible refine fork (fun _ => ?_) (fun _ => ?_)
    | with_reducible refine forkp (fun _ => ?_) (fun _ => ?_)
    | with_reducible refine forke (fun _ => ?_) (fun _ _ => ?_)
    | with_reducible refine tail_k fun _ _ _ => ?_
    | with_reducible refine ext_k fun _ _ _ => ?_
    | with_reducible refine need (by first | kernel_rfl | omega | assumption) ?_
    | with_reducible refine st_agg (by kernel_rfl) rfl (by simp only [natV, intV, S3, *]) fun _ _ _ _ => ?_
    | with_reducible refine wpd_quiet_lit (by kernel_rfl) (by kernel_rfl) (by kernel_rfl) ?_
    | simp (maxDischargeDepth := 3) only [↓X, ↓Y, ↓Q, S1, ↓reduceIte, Nat.reduceEqDiff, Nat.reduceAdd, Int.reduceLT, Int.reduceLE, Int.reduceNeg, Int.reduceBEq, Int.reduceBNe, Int.reduceEq, Nat.reduceLeDiff, Nat.reduceMul, Nat.reduceLT, natV, intV, putAt, idxOk, flatP, *, stepV, stepC]
    | simp (singlePass := true) (maxDischargeDepth := 99) only [*, S2, Nat.reduceLT, stepV, stepC])
      all_goals exact o5
    have e := Option.some.inj ho
    subst e
    have d5 : ∃ v0, (gF 14) = .tuple #[v0, .bool false, intV 0] ∧ Own w9 w6.heap.size 39 4 v0 (([⟨6, 0, 0, 0⟩, ⟨1, 0, 0, 0⟩, ⟨3, 0, 0, 0⟩] : List StepD).map stepC) := hdep ⟨5, .data⟩ (by simp) rfl _ _ rfl rfl
    obtain ⟨v5, e5, o5⟩ := d5
    clear hag hdep ho
    refine relStep_off rfl ?_
    rotate_left
    have e := Option.some.inj ho
    subst e
    have d5 : ∃ v0, (gF 14) = .tuple #[v0, .bool false, intV 0] ∧ Own w9 w6.heap.size 39 4 v0 (([⟨6, 0, 0, 0⟩, ⟨1, 0, 0, 0⟩, ⟨3, 0, 0, 0⟩] : List StepD).map stepC) := hdep ⟨5, .data⟩ (by simp) rfl _ _ rfl rfl
    obtain ⟨v5, e5, o5⟩ := d5
    clear hag hdep ho
    refine relStep_off rfl ?_
    rotate_left
    · have e := Option.some.inj ho
      subst e
      have d6 : Own w9 w6.heap.size 39 4 (gF 20) (([⟨6, 0, 0, 0⟩, ⟨1, 0, 0, 0⟩, ⟨3, 0, 0, 0⟩] : List StepD).map stepC) := hdep ⟨6, .data⟩ (by simp) rfl _ _ rfl rfl
      clear hag hdep ho
      refine relStep_off rfl ?_
      (repeat' first
    | with_reducible refine alloc_k fun _ _ _ _ _ _ => ?_
    | ((with_reducible refine at_row ?_); refine row1_k (by rfl) (by decide) fun _ _ _ _ _ _ _ => ?_)
    | with_reducible refine row_k fun _ _ _ _ _ _ => ?_
    | with_reducible refine fork (fun _ => ?_) (fun _ => ?_)
    | with_reducible refine forkp (fun _ => ?_) (fun _ => ?_)
    | with_reducible refine forke (fun _ => ?_) (fun _ _ => ?_)
    | with_reducible refine tail_k fun _ _ _ => ?_
    | with_reducible refine ext_k fun _ _ _ => ?_
    | with_reducible refine need (by first | kernel_rfl | omega | assumption) ?_
    | with_reducible refine st_agg (by kernel_rfl) rfl (by simp only [natV, intV, S3, *]) fun _ _ _ _ => ?_
    | with_reducible refine wpd_quiet_lit (by kernel_rfl) (by kernel_rfl) (by kernel_rfl) ?_
    | simp (maxDischargeDepth := 3) only [↓X, ↓Y, ↓Q, S1, ↓reduceIte, Nat.reduceEqDiff, Nat.reduceAdd, Int.reduceLT, Int.reduceLE, Int.reduceNeg, Int.reduceBEq, Int.reduceBNe, Int.reduceEq, Nat.reduceLeDiff, Nat.reduceMul, Nat.reduceLT, natV, intV, putAt, idxOk, flatP, *, stepV, stepC]
    | simp (singlePass := true) (maxDischargeDepth := 99) only [*, S2, Nat.reduceLT, stepV, stepC])
      all_goals exact d6
    have e := Option.some.inj ho
    subst e
    have d7 : (gF 21) = .bool false := hdep ⟨7, .data⟩ (by simp) rfl _ _ rfl rfl
    clear hag hdep ho
    refine relStep_off rfl ?_
    rotate_left
    · omega
    all_goals (repeat' first
    | with_reducible refine alloc_k fun _ _ _ _ _ _ => ?_
    | ((with_reducible refine at_row ?_); refine row1_k (by rfl) (by decide) fun _ _ _ _ _ _ _ => ?_)
    | with_reducible refine row_k fun _ _ _ _ _ _ => ?_
    | with_reducible refine fork (fun _ => ?_) (fun _ => ?_)
    | with_reducible refine forkp (fun _ => ?_) (fun _ => ?_)
    | with_reducible refine forke (fun _ => ?_) (fun _ _ => ?_)
    | with_reducible refine tail_k fun _ _ _ => ?_
    | with_reducible refine ext_k fun _ _ _ => ?_
    | with_reducible refine need (by first | kernel_rfl | omega | assumption) ?_
    | with_reducible refine st_agg (by kernel_rfl) rfl (by simp only [natV, intV, S3, *]) fun _ _ _ _ => ?_
    | with_reducible refine wpd_quiet_lit (by kernel_rfl) (by kernel_rfl) (by kernel_rfl) ?_
    | simp (maxDischargeDepth := 3) only [↓X, ↓Y, ↓Q, S1, ↓reduceIte, Nat.reduceEqDiff, Nat.reduceAdd, Int.reduceLT, Int.reduceLE, Int.reduceNeg, Int.reduceBEq, Int.reduceBNe, Int.reduceEq, Nat.reduceLeDiff, Nat.reduceMul, Nat.reduceLT, natV, intV, putAt, idxOk, flatP, *, stepV, stepC]
    | simp (singlePass := true) (maxDischargeDepth := 99) only [*, S2, Nat.reduceLT, stepV, stepC])
  · intro g9 w9 hx9 hR hag
    have s9 := hx9.st
    have n9 : Now w9 := trivial
    have r9 := Ext.refl w9
    have z9 := hx9.size
    have d8 : (g9 22) = intV 0 := hR 8 _ _ (by decide) rfl rfl
    have d9 : Own w9 w6.heap.size 39 4 (g9 3) (([⟨6, 0, 0, 0⟩, ⟨1, 0, 0, 0⟩, ⟨3, 0, 0, 0⟩] : List StepD).map stepC) := hR 9 _ _ (by decide) rfl rfl
    have d10 : (g9 4) = .bool false := hR 10 _ _ (by decide) rfl rfl
    have a2 := hag.at 2 (by kernel_rfl)
    simp only [U, ↓reduceIte, Nat.reduceEqDiff, initF, U2, List.getElem?_cons_zero, List.getElem?_cons_succ, *] at a2
    clear hag hR
    simp only [List.drop_succ_cons, List.drop_zero]
    have K9 := (show Sl w9 w9.heap.size (some 4) 4 _ (([⟨6, 0, 0, 0⟩, ⟨1, 0, 0, 0⟩, ⟨3, 0, 0, 0⟩] : List StepD).map stepV) from d9.slN (f := stepC)).k (Nat.le_refl _)
    clear d9
    (repeat' first
    | with_reducible refine alloc_k fun _ _ _ _ _ _ => ?_
    | ((with_reducible refine at_row ?_); refine row1_k (by rfl) (by decide) fun _ _ _ _ _ _ _ => ?_)
    | with_reducible refine row_k fun _ _ _ _ _ _ => ?_
    | with_reducible refine fork (fun _ => ?_) (fun _ => ?_)
    | with_reducible refine forkp (fun _ => ?_) (fun _ => ?_)
    | with_reducible refine forke (fun _ => ?_) (fun _ _ => ?_)
    | with_reducible refine tail_k fun _ _ _ => ?_
    | with_reducible refine ext_k fun _ _ _ => ?_
    | with_reducible refine need (by first | kernel_rfl | omega | assumption) ?_
    | with_reducible refine st_agg (by kernel_rfl) rfl (by simp only [natV, intV, S3, *]) fun _ _ _ _ => ?_
    | with_reducible refine wpd_quiet_lit (by kernel_rfl) (by kernel_rfl) (by kernel_rfl) ?_
    | simp (maxDischargeDepth := 3) only [↓X, ↓Y, ↓Q, S1, ↓reduceIte, Nat.reduceEqDiff, Nat.reduceAdd, Int.reduceLT, Int.reduceLE, Int.reduceNeg, Int.reduceBEq, Int.reduceBNe, Int.reduceEq, Nat.reduceLeDiff, Nat.reduceMul, Nat.reduceLT, natV, intV, putAt, idxOk, flatP, *]
    | simp (singlePass := true) (maxDischargeDepth := 99) only [*, S2, Nat.reduceLT])
    rename_i b7 w7 n7 k7 s7 q7
    refine ret_k (ref19Same (B := w9.heap.size) (B' := w7.heap.size) (a := [⟨6, 0, 0, 0⟩, ⟨1, 0, 0, 0⟩, ⟨3, 0, 0, 0⟩]) (b := [⟨6, 0, 0, 0⟩, ⟨1, 0, 0, 0⟩, ⟨3, 0, 0, 0⟩]) FR (Nat.le_refl _) (K9.2.2.2.2.2.2.1 _ FR)
      (row_of (l := [[.int .u8 6, intV 0, intV 0, intV 0], [.int .u8 1, intV 0, intV 0, intV 0], [.int .u8 3, intV 0, intV 0, intV 0]]) (k7.2.1 _ FR) rfl rfl (by simp) (by simp))) fun w8 n8 s8 => ?_
    rw [decide_eq_true rfl]
    clear K9 X4 k7
    (repeat' first
    | with_reducible refine alloc_k fun _ _ _ _ _ _ => ?_
    | ((with_reducible refine at_row ?_); refine row1_k (by rfl) (by decide) fun _ _ _ _ _ _ _ => ?_)
    | with_reducible refine row_k fun _ _ _ _ _ _ => ?_
    | with_reducible refine fork (fun _ => ?_) (fun _ => ?_)
    | with_reducible refine forkp (fun _ => ?_) (fun _ => ?_)
    | with_reducible refine forke (fun _ => ?_) (fun _ _ => ?_)
    | with_reducible refine tail_k fun _ _ _ => ?_
    | with_reducible refine ext_k fun _ _ _ => ?_
    | with_reducible refine need (by first | kernel_rfl | omega | assumption) ?_
    | with_reducible refine st_agg (by kernel_rfl) rfl (by simp only [natV, intV, S3, *]) fun _ _ _ _ => ?_
    | with_reducible refine wpd_quiet_lit (by kernel_rfl) (by kernel_rfl) (by kernel_rfl) ?_
    | simp (maxDischargeDepth := 3) only [↓X, ↓Y, ↓Q, S1, ↓reduceIte, Nat.reduceEqDiff, Nat.reduceAdd, Int.reduceLT, Int.reduceLE, Int.reduceNeg, Int.reduceBEq, Int.reduceBNe, Int.reduceEq, Nat.reduceLeDiff, Nat.reduceMul, Nat.reduceLT, natV, intV, putAt, idxOk, flatP, *]
    | simp (singlePass := true) (maxDischargeDepth := 99) only [*, S2, Nat.reduceLT])
    refine call_k lawSite19 ?_
    rintro _ wa na sa ⟨ua, rfl, aa⟩
    have S1' := aa.sk (Nat.le_refl _)
    (repeat' first
    | with_reducible refine alloc_k fun _ _ _ _ _ _ => ?_
    | ((with_reducible refine at_row ?_); refine row1_k (by rfl) (by decide) fun _ _ _ _ _ _ _ => ?_)
    | with_reducible refine row_k fun _ _ _ _ _ _ => ?_
    | with_reducible refine fork (fun _ => ?_) (fun _ => ?_)
    | with_reducible refine forkp (fun _ => ?_) (fun _ => ?_)
    | with_reducible refine forke (fun _ => ?_) (fun _ _ => ?_)
    | with_reducible refine tail_k fun _ _ _ => ?_
    | with_reducible refine ext_k fun _ _ _ => ?_
    | with_reducible refine need (by first | kernel_rfl | omega | assumption) ?_
    | with_reducible refine st_agg (by kernel_rfl) rfl (by simp only [natV, intV, S3, *]) fun _ _ _ _ => ?_
    | with_reducible refine wpd_quiet_lit (by kernel_rfl) (by kernel_rfl) (by kernel_rfl) ?_
    | simp (maxDischargeDepth := 3) only [↓X, ↓Y, ↓Q, S1, ↓reduceIte, Nat.reduceEqDiff, Nat.reduceAdd, Int.reduceLT, Int.reduceLE, Int.reduceNeg, Int.reduceBEq, Int.reduceBNe, Int.reduceEq, Nat.reduceLeDiff, Nat.reduceMul, Nat.reduceLT, natV, intV, putAt, idxOk, flatP, *]
    | simp (singlePass := true) (maxDischargeDepth := 99) only [*, S2, Nat.reduceLT])
    refine call_k lawWish19 ?_
    rintro _ wb nb sb ⟨vb, lb, rfl, ab, eb⟩
    have W2 := ab.sk (Nat.le_refl _)
    (repeat' first
    | with_reducible refine alloc_k fun _ _ _ _ _ _ => ?_
    | ((with_reducible refine at_row ?_); refine row1_k (by rfl) (by decide) fun _ _ _ _ _ _ _ => ?_)
    | with_reducible refine row_k fun _ _ _ _ _ _ => ?_
    | with_reducible refine fork (fun _ => ?_) (fun _ => ?_)
    | with_reducible refine forkp (fun _ => ?_) (fun _ => ?_)
    | with_reducible refine forke (fun _ => ?_) (fun _ _ => ?_)
    | with_reducible refine tail_k fun _ _ _ => ?_
    | with_reducible refine ext_k fun _ _ _ => ?_
    | with_reducible refine need (by first | kernel_rfl | omega | assumption) ?_
    | with_reducible refine st_agg (by kernel_rfl) rfl (by simp only [natV, intV, S3, *]) fun _ _ _ _ => ?_
    | with_reducible refine wpd_quiet_lit (by kernel_rfl) (by kernel_rfl) (by kernel_rfl) ?_
    | simp (maxDischargeDepth := 3) only [↓X, ↓Y, ↓Q, S1, ↓reduceIte, Nat.reduceEqDiff, Nat.reduceAdd, Int.reduceLT, Int.reduceLE, Int.reduceNeg, Int.reduceBEq, Int.reduceBNe, Int.reduceEq, Nat.reduceLeDiff, Nat.reduceMul, Nat.reduceLT, natV, intV, putAt, idxOk, flatP, *]
    | simp (singlePass := true) (maxDischargeDepth := 99) only [*, S2, Nat.reduceLT])
    refine call_k lawWorld19 ?_
    rintro _ wc nc sc oc
    obtain ⟨hc, rc, rfl, xc⟩ := oc.r
    have X3 := xc.sk (Nat.le_refl _)
    clear oc xc aa ab
    (repeat' first
    | with_reducible refine alloc_k fun _ _ _ _ _ _ => ?_
    | ((with_reducible refine at_row ?_); refine row1_k (by rfl) (by decide) fun _ _ _ _ _ _ _ => ?_)
    | with_reducible refine row_k fun _ _ _ _ _ _ => ?_
    | with_reducible refine fork (fun _ => ?_) (fun _ => ?_)
    | with_reducible refine forkp (fun _ => ?_) (fun _ => ?_)
    | with_reducible refine forke (fun _ => ?_) (fun _ _ => ?_)
    | with_reducible refine tail_k fun _ _ _ => ?_
    | with_reducible refine ext_k fun _ _ _ => ?_
    | with_reducible refine need (by first | kernel_rfl | omega | assumption) ?_
    | with_reducible refine st_agg (by kernel_rfl) rfl (by simp only [natV, intV, S3, *]) fun _ _ _ _ => ?_
    | with_reducible refine wpd_quiet_lit (by kernel_rfl) (by kernel_rfl) (by kernel_rfl) ?_
    | simp (maxDischargeDepth := 3) only [↓X, ↓Y, ↓Q, S1, ↓reduceIte, Nat.reduceEqDiff, Nat.reduceAdd, Int.reduceLT, Int.reduceLE, Int.reduceNeg, Int.reduceBEq, Int.reduceBNe, Int.reduceEq, Nat.reduceLeDiff, Nat.reduceMul, Nat.reduceLT, natV, intV, putAt, idxOk, flatP, *]
    | simp (singlePass := true) (maxDischargeDepth := 99) only [*, S2, Nat.reduceLT])
    refine ret_k (stepReady (st := ⟨1, 1, 0, 0⟩) (Nat.le_refl _) ((S1'.2.2.2.2.2.2 _ FR).up FR) ((W2.2.2 _ FR).up FR) (X3.2.2.2.2 _ FR)) fun wd nd sd => ?_
    rw [eb, ex19_ready]
    (repeat' first
    | with_reducible refine alloc_k fun _ _ _ _ _ _ => ?_
    | ((with_reducible refine at_row ?_); refine row1_k (by rfl) (by decide) fun _ _ _ _ _ _ _ => ?_)
    | with_reducible refine row_k fun _ _ _ _ _ _ => ?_
    | with_reducible refine fork (fun _ => ?_) (fun _ => ?_)
    | with_reducible refine forkp (fun _ => ?_) (fun _ => ?_)
    | with_reducible refine forke (fun _ => ?_) (fun _ _ => ?_)
    | with_reducible refine tail_k fun _ _ _ => ?_
    | with_reducible refine ext_k fun _ _ _ => ?_
    | with_reducible refine need (by first | kernel_rfl | omega | assumption) ?_
    | with_reducible refine st_agg (by kernel_rfl) rfl (by simp only [natV, intV, S3, *]) fun _ _ _ _ => ?_
    | with_reducible refine wpd_quiet_lit (by kernel_rfl) (by kernel_rfl) (by kernel_rfl) ?_
    | simp (maxDischargeDepth := 3) only [↓X, ↓Y, ↓Q, S1, ↓reduceIte, Nat.reduceEqDiff, Nat.reduceAdd, Int.reduceLT, Int.reduceLE, Int.reduceNeg, Int.reduceBEq, Int.reduceBNe, Int.reduceEq, Nat.reduceLeDiff, Nat.reduceMul, Nat.reduceLT, natV, intV, putAt, idxOk, flatP, *]
    | simp (singlePass := true) (maxDischargeDepth := 99) only [*, S2, Nat.reduceLT])
end
end Go.Proofs.YtcdeeoakoljlpaaGreat
