/- The statements on layer 26: their examples, sizes and lists. -/
import Derived.Test.YtblegjdogmcgbaaGreatAgent3
import Derived.Test.YtblegjdogmcgbaaGreatLive13
import Derived.Test.YtblegjdogmcgbaaGreatRel3

namespace Go.Proofs.YtblegjdogmcgbaaGreat
set_option linter.unusedSimpArgs false
set_option linter.unusedVariables false
open Go Go.RowKit
set_option maxRecDepth 100000
set_option linter.unusedSectionVars false
set_option maxHeartbeats 2000000
def siteEx26 : SiteD := ⟨[⟨1000⟩], [⟨0, 1000, 0, 0⟩], [⟨1000, 0⟩], [⟨0, 0, 0, 0⟩, ⟨2, 0, 0, 0⟩], 1, [], [⟨0, 4, 0, 0⟩, ⟨0, 4, 0, 0⟩, ⟨1, 4, 0, 0⟩]⟩
def SmallR (w : World) (r : Value) : Prop := ∃ (u : SiteVs) (v : Value) (l : List SrvV) (hv rv : Value), r = .tuple #[.agg (siteC u siteEx26).toArray, .agg #[v], .agg #[hv, rv]] ∧ SiteR w w.heap.size u siteEx26 ∧ WishR w w.heap.size v l ∧ l.map (·.x) = [srvEx1, srvEx2] ∧ WorldR w w.heap.size hv rv worldEx
theorem law26small {w : World} : CallsV Tryz.prog 25 #[] w fun r w' => Ext w w' ∧ SmallR w' r := by
 have hn : Now w := trivial
 have hx : Ext w w := Ext.refl w
 (refine callsV_of Tryz.func25 rfl KR KR ?_; rw [Tryz.results25])
 (repeat' first
  | ((with_reducible refine at_row ?_); refine row1_a fun _ _ _ _ _ _ _ => ?_)
  | with_reducible first | (first | apply alloc_k | apply row_k); intro _ _ _ _ _ _ | (first | apply fork | apply forkp) <;> intro _ | refine forke (fun _ => ?_) fun _ _ => ?_ | refine tail_k fun _ _ _ => ?_ | refine ext_k fun _ _ _ => ?_ | refine need_a ?_ | refine st_agg KR rfl ON fun _ _ _ _ => ?_ | refine wpd_q_a ?_
  | simp (maxDischargeDepth := 3) only [↓X, ↓Y, ↓Q, S1, ↓reduceIte, Nat.reduceEqDiff, Nat.reduceAdd, Int.reduceLT, Int.reduceLE, Int.reduceNeg, Int.reduceBEq, Int.reduceBNe, Int.reduceEq, Nat.reduceLeDiff, Nat.reduceMul, Nat.reduceLT, *]
  | simp (singlePass := true) (maxDischargeDepth := 99) only [*, S2, Nat.reduceLT])
 refine mk_own_k (n := 3) (z := .agg #[.int .u8 0, .int .i64 0]) rfl (by decide) (by decide) (by decide) fun g1 w1 n1 hb1 s1 nw1 => ?_
 have k1 := hb1.bk
 clear hb1
 (repeat' first
  | ((with_reducible refine wpd_at 4 ?_); refine wpd_hold ?_)
  | ((with_reducible refine at_row ?_); refine row1_a fun _ _ _ _ _ _ _ => ?_)
  | with_reducible first | (first | apply alloc_k | apply row_k); intro _ _ _ _ _ _ | (first | apply fork | apply forkp) <;> intro _ | refine forke (fun _ => ?_) fun _ _ => ?_ | refine tail_k fun _ _ _ => ?_ | refine ext_k fun _ _ _ => ?_ | refine need_a ?_ | refine st_agg KR rfl ON fun _ _ _ _ => ?_ | refine wpd_q_a ?_
  | simp (maxDischargeDepth := 3) only [↓X, ↓Y, ↓Q, S1, ↓reduceIte, Nat.reduceEqDiff, Nat.reduceAdd, Int.reduceLT, Int.reduceLE, Int.reduceNeg, Int.reduceBEq, Int.reduceBNe, Int.reduceEq, Nat.reduceLeDiff, Nat.reduceMul, Nat.reduceLT, *]
  | simp (singlePass := true) (maxDischargeDepth := 99) only [*, S2, Nat.reduceLT])
 rename_i t0 v0 m0 r0 p0 y0 t1 v1 m1 r1 p1 y1 t2 v2 m2 r2 p2 y2 c1 x1 a1 d1 e1 f1 l1 c2 x2 a2 d2 e2 f2 c3 x3 a3 d3 e3 f3 c4 x4 a4 d4 e4 f4 c5 x5 a5 d5 e5 f5 c6 x6 a6 d6 e6 f6 xq aq dq eq c7 x7 a7 d7 e7 f7 c8 x8 a8 d8 e8 f8 xr ar dr er c9 x9 a9 d9 e9 f9 ca xa aa da ea fa ws ns ds es
 clear d6 d8 da
 have d3' := d3
 have d4' := d4
 have d2' := d2
 clear d3 d4 d2
 have hRB : ∀ b ∈ [t0, t1], b < ws.heap.size := by simp only [List.mem_cons, List.not_mem_nil, or_false, forall_eq_or_imp, forall_eq]; exact FR
 unfold wpdH
 refine wpd_relL 5 [t0, t1] [(3, t0), (4, t1)] rfl (fun iI v w9 => match iI with
  | 0 => v = .agg #[.slice (some ⟨c1, 0, none⟩) 1 1, .slice (some ⟨c2, 0, none⟩) 1 1, .slice (some ⟨c3, 0, none⟩) 1 1, .slice (some ⟨c4, 0, none⟩) 2 2, intV 1, .slice none 0 0, .slice (some ⟨c5, 0, none⟩) 3 3]
  | 1 => v = .agg #[.slice (some ⟨c7, 0, none⟩) 2 2]
  | 2 => v = .agg #[.slice (some ⟨g1, 0, none⟩) 3 3, .slice (some ⟨c9, 0, none⟩) 3 3]
  | 3 => Blk w9 t0 29 [.slice (some ⟨c1, 0, none⟩) 1 1, .slice (some ⟨c2, 0, none⟩) 1 1, .slice (some ⟨c3, 0, none⟩) 1 1, .slice (some ⟨c4, 0, none⟩) 2 2, intV 1, .slice none 0 0, .slice (some ⟨c5, 0, none⟩) 3 3]
  | 4 => Blk w9 t1 32 [.slice (some ⟨c7, 0, none⟩) 2 2]
  | _ => False) KR KR KR hRB (by simp only [List.nodup_cons, List.mem_cons, List.not_mem_nil, or_false, not_or, List.nodup_nil, not_false_eq_true, and_true] <;> exact FR) ?_ ?_ ?_
 ·intro iI v w1 w2 hR hx9
  match iI, hR with
  | 0, h => exact h
  | 1, h => exact h
  | 2, h => exact h
  | 3, h => exact h.tb hx9 (fun hX => hX.2 rfl)
  | 4, h => exact h.tb hx9 (fun hX => hX.2 rfl)
 ·intro iI oO hi ho gF w9 hx9 hdep hag hun
  have s9 := hx9.sb
  simp only [Sb, List.mem_cons, List.not_mem_nil, or_false, forall_eq_or_imp, forall_eq] at s9
  have n9 : Now w9 := trivial
  have r9 := Ext.refl w9
  have z9 := hx9.size
  rcases iI with _|_|_|_|_|iI
  have e := Option.some.inj ho
  subst e
  have a3 := hag.at 3 KR
  simp only [S5, ↓reduceIte, Nat.reduceEqDiff, initF, *] at a3
  have un3 : Kp t0 ws w9 := ⟨hRB _ (by simp), hun 3 _ (by decide) rfl KR⟩
  have un4 : Kp t1 ws w9 := ⟨hRB _ (by simp), hun 4 _ (by decide) rfl KR⟩
  clear hag hdep ho hun
  refine ⟨fun _ => ?_, fun b hb => by simp [bkL] at hb⟩
  refine relStep_off rfl ?_
  rotate_left
  have e := Option.some.inj ho
  subst e
  have a4 := hag.at 4 KR
  simp only [S5, ↓reduceIte, Nat.reduceEqDiff, initF, *] at a4
  have un4 : Kp t1 ws w9 := ⟨hRB _ (by simp), hun 4 _ (by decide) rfl KR⟩
  clear hag hdep ho hun
  refine ⟨fun _ => ?_, fun b hb => by simp [bkL] at hb⟩
  refine relStep_off rfl ?_
  rotate_left
  have e := Option.some.inj ho
  subst e
  have a5 := hag.at 5 KR
  simp only [S5, ↓reduceIte, Nat.reduceEqDiff, initF, *] at a5
  clear hag hdep ho hun
  refine ⟨fun _ => ?_, fun b hb => by simp [bkL] at hb⟩
  refine relStep_off rfl ?_
  rotate_left
  have e := Option.some.inj ho
  subst e
  have a0 := hag.at 0 KR
  simp only [S5, ↓reduceIte, Nat.reduceEqDiff, initF, *] at a0
  have d0 : (gF 30) = .agg #[.slice (some ⟨c1, 0, none⟩) 1 1, .slice (some ⟨c2, 0, none⟩) 1 1, .slice (some ⟨c3, 0, none⟩) 1 1, .slice (some ⟨c4, 0, none⟩) 2 2, intV 1, .slice none 0 0, .slice (some ⟨c5, 0, none⟩) 3 3] := hdep ⟨0, .data⟩ (by simp) rfl _ _ rfl rfl
  have un4 : Kp t1 ws w9 := ⟨hRB _ (by simp), hun 4 _ (by decide) rfl KR⟩
  clear hag hdep ho hun
  refine ⟨fun h => by simp [bkL] at h, fun b hb hU => ?_⟩
  obtain rfl : t0 = b := by simpa [bkL] using hb
  refine relStep_off rfl ?_
  rotate_left
  have e := Option.some.inj ho
  subst e
  have a1 := hag.at 1 KR
  simp only [S5, ↓reduceIte, Nat.reduceEqDiff, initF, *] at a1
  have d1 : (gF 31) = .agg #[.slice (some ⟨c7, 0, none⟩) 2 2] := hdep ⟨1, .data⟩ (by simp) rfl _ _ rfl rfl
  clear hag hdep ho hun
  refine ⟨fun h => by simp [bkL] at h, fun b hb hU => ?_⟩
  obtain rfl : t1 = b := by simpa [bkL] using hb
  refine relStep_off rfl ?_
  rotate_left
  ·omega
  all_goals (repeat' first
  | ((with_reducible refine at_row ?_); refine row1_a fun _ _ _ _ _ _ _ => ?_)
  | with_reducible first | (first | apply alloc_k | apply row_k); intro _ _ _ _ _ _ | (first | apply fork | apply forkp) <;> intro _ | refine forke (fun _ => ?_) fun _ _ => ?_ | refine tail_k fun _ _ _ => ?_ | refine ext_k fun _ _ _ => ?_ | refine need_a ?_ | refine st_agg KR rfl ON fun _ _ _ _ => ?_ | refine wpd_q_a ?_
  | simp (maxDischargeDepth := 3) only [↓X, ↓Y, ↓Q, S1, ↓reduceIte, Nat.reduceEqDiff, Nat.reduceAdd, Int.reduceLT, Int.reduceLE, Int.reduceNeg, Int.reduceBEq, Int.reduceBNe, Int.reduceEq, Nat.reduceLeDiff, Nat.reduceMul, Nat.reduceLT, *, siteC, siteEx26]
  | simp (singlePass := true) (maxDischargeDepth := 99) only [*, S2, Nat.reduceLT, siteC, siteEx26])
  all_goals first
   | (exact stT_agg (vs := [.slice (some ⟨c1, 0, none⟩) 1 1, .slice (some ⟨c2, 0, none⟩) 1 1, .slice (some ⟨c3, 0, none⟩) 1 1, .slice (some ⟨c4, 0, none⟩) 2 2, intV 1, .slice none 0 0, .slice (some ⟨c5, 0, none⟩) 3 3]) (r0.2.1 ws FR) hU KR rfl (by simp [one_slice, intV, one_int]) fun w' hb' hc' => ⟨hc', hb'⟩)
   | (exact stT_agg (vs := [.slice (some ⟨c7, 0, none⟩) 2 2]) (r1.2.1 ws FR) hU KR rfl (by simp [one_slice]) fun w' hb' hc' => ⟨hc', hb'⟩)
 ·intro g9 w9 hx9 hR hS9 hag
  have s9 := hx9.sb
  simp only [Sb, List.mem_cons, List.not_mem_nil, or_false, forall_eq_or_imp, forall_eq] at s9
  have n9 : Now w9 := trivial
  have r9 := Ext.refl w9
  have z9 := hx9.size
  have d2 : (g9 32) = .agg #[.slice (some ⟨g1, 0, none⟩) 3 3, .slice (some ⟨c9, 0, none⟩) 3 3] := hR 2 _ _ (by decide) rfl rfl
  obtain ⟨vs3, d3⟩ := hS9 3 _ (by decide) rfl
  replace d3 : Blk w9 t0 29 [.slice (some ⟨c1, 0, none⟩) 1 1, .slice (some ⟨c2, 0, none⟩) 1 1, .slice (some ⟨c3, 0, none⟩) 1 1, .slice (some ⟨c4, 0, none⟩) 2 2, intV 1, .slice none 0 0, .slice (some ⟨c5, 0, none⟩) 3 3] := d3
  obtain ⟨vs4, d4⟩ := hS9 4 _ (by decide) rfl
  replace d4 : Blk w9 t1 32 [.slice (some ⟨c7, 0, none⟩) 2 2] := d4
  have a0 := hag.at 0 KR
  have a1 := hag.at 1 KR
  have a2 := hag.at 2 KR
  have a29 := hag.at 29 KR
  have a36 := hag.at 36 KR
  simp only [S5, ↓reduceIte, Nat.reduceEqDiff, initF, *] at a0 a1 a2 a29 a36
  clear hag hR hS9
  simp only [List.drop_succ_cons, List.drop_zero]
  have kA := d3.bk
  have kB := d4.bk
  (repeat' first
  | ((with_reducible refine at_row ?_); refine row1_a fun _ _ _ _ _ _ _ => ?_)
  | with_reducible first | (first | apply alloc_k | apply row_k); intro _ _ _ _ _ _ | (first | apply fork | apply forkp) <;> intro _ | refine forke (fun _ => ?_) fun _ _ => ?_ | refine tail_k fun _ _ _ => ?_ | refine ext_k fun _ _ _ => ?_ | refine need_a ?_ | refine st_agg KR rfl ON fun _ _ _ _ => ?_ | refine wpd_q_a ?_
  | simp (maxDischargeDepth := 3) only [↓X, ↓Y, ↓Q, S1, ↓reduceIte, Nat.reduceEqDiff, Nat.reduceAdd, Int.reduceLT, Int.reduceLE, Int.reduceNeg, Int.reduceBEq, Int.reduceBNe, Int.reduceEq, Nat.reduceLeDiff, Nat.reduceMul, Nat.reduceLT, *]
  | simp (singlePass := true) (maxDischargeDepth := 99) only [*, S2, Nat.reduceLT])
  refine ⟨⟨.slice (some ⟨c1, 0, none⟩) 1 1, .slice (some ⟨c2, 0, none⟩) 1 1, .slice (some ⟨c3, 0, none⟩) 1 1, .slice (some ⟨c4, 0, none⟩) 2 2, .slice none 0 0, .slice (some ⟨c5, 0, none⟩) 3 3⟩, _, [⟨srvEx1, .slice none 0 0, .slice none 0 0⟩, ⟨srvEx2, .slice none 0 0, .slice none 0 0⟩], _, _, rfl, ?_, ⟨?_, ?_, ?_⟩, rfl, ?_⟩
  ·exact ⟨row_of (l := [[intV 1000]]) (d1.2.1 _ FR) rfl rfl (by simp) (by simp), row_of (l := [[intV 0, intV 1000, intV 0, intV 0]]) (d2'.2.1 _ FR) rfl rfl (by simp) (by simp), row_of (l := [[intV 1000, intV 0]]) (d3'.2.1 _ FR) rfl rfl (by simp) (by simp),
    row_of (l := [[intV 0, intV 0, intV 0, intV 0], [intV 2, intV 0, intV 0, intV 0]]) (d4'.2.1 _ FR) rfl rfl (by simp) (by simp), Sl.nil _ _ _ _, row_of (l := [[intV 0, intV 4, intV 0, intV 0], [intV 0, intV 4, intV 0, intV 0], [intV 1, intV 4, intV 0, intV 0]]) (d5.2.1 _ FR) rfl rfl (by simp) (by simp)⟩
  ·exact row_of (l := [[intV 2, intV 2, intV 0, .int .u8 0, intV 0, .slice none 0 0, .slice none 0 0, intV 0], [intV 1, intV 2, intV 0, .int .u8 0, intV 0, .slice none 0 0, .slice none 0 0, intV 0]]) (d7.2.1 _ FR) rfl rfl (by simp) (by simp)
  ·intro u hu
   simp only [List.mem_cons, List.not_mem_nil, or_false] at hu
   rcases hu with rfl | rfl <;> exact Sl.nil _ _ _ _
  ·intro u hu
   simp only [List.mem_cons, List.not_mem_nil, or_false] at hu
   rcases hu with rfl | rfl <;> exact Sl.nil _ _ _ _
  ·exact ⟨row_of (l := [[.int .u8 0, intV 0], [.int .u8 0, intV 0], [.int .u8 0, intV 0]]) (k1.2.1 _ FR) rfl rfl (by simp) (by simp), row_of (l := [[intV 0, intV 0], [intV 0, intV 2], [intV 1, intV 0]]) (d9.2.1 _ FR) rfl rfl (by simp) (by simp)⟩
theorem law26starts {w : World} {id lease service host : Int} : Ret Tryz.prog 26 #[intV id, intV lease, intV service, intV host] w (requestV ⟨id, lease, ⟨1, host, service, 0⟩⟩) := by
 have hn : Now w := trivial
 have hx : Ext w w := Ext.refl w
 (refine callsV_of Tryz.func26 rfl KR KR ?_; rw [Tryz.results26])
 (repeat' first
  | ((with_reducible refine at_row ?_); refine row1_a fun _ _ _ _ _ _ _ => ?_)
  | with_reducible first | (first | apply alloc_k | apply row_k); intro _ _ _ _ _ _ | (first | apply fork | apply forkp) <;> intro _ | refine forke (fun _ => ?_) fun _ _ => ?_ | refine tail_k fun _ _ _ => ?_ | refine ext_k fun _ _ _ => ?_ | refine need_a ?_ | refine st_agg KR rfl ON fun _ _ _ _ => ?_ | refine wpd_q_a ?_
  | simp (maxDischargeDepth := 3) only [↓X, ↓Y, ↓Q, S1, ↓reduceIte, Nat.reduceEqDiff, Nat.reduceAdd, Int.reduceLT, Int.reduceLE, Int.reduceNeg, Int.reduceBEq, Int.reduceBNe, Int.reduceEq, Nat.reduceLeDiff, Nat.reduceMul, Nat.reduceLT, *, requestV, requestC]
  | simp (singlePass := true) (maxDischargeDepth := 99) only [*, S2, Nat.reduceLT, requestV, requestC])
def few26B (s : SiteD) (wl : List ServiceD) (x : WorldD) : Bool := decide (s.hosts.length ≤ 20) && decide (s.racks.length ≤ 10) && decide (s.links.length ≤ 20) && decide (wl.length ≤ 10) && decide (x.hosts.length ≤ 20) && decide (x.replicas.length ≤ 30)
theorem add_zero' (a : Addr) : a.add 0 = a := by cases a; rfl
theorem Sl.cut {w : World} {B sz m : Nat} {k : Option Nat} {v : Value} {xs : List Value} (h : Sl w B k sz v xs) (hm : m ≤ xs.length) : Sl w B k sz (cutV sz v 0 m (capN v)) (xs.take m) := by
 have hwf := h.wf
 match v, h, hwf with
 | .slice none n c, h, hwf =>
  obtain rfl : n = 0 := hwf
  have hx : xs.length = 0 := h.len.symm
  obtain rfl : m = 0 := by omega
  have e : cutV sz (.slice none 0 c) 0 0 (capN (.slice none 0 c)) = .slice none 0 c := by simp [cutV, capN]
  rw [List.take_zero, e]
  exact ⟨rfl, rfl, h.cap, h.max, fun b hb _ => by simp [blockOf] at hb, fun i hi => absurd hi (Nat.not_lt_zero _)⟩
 | .slice (some a) n c, h, _ =>
  have e : cutV sz (.slice (some a) n c) 0 m (capN (.slice (some a) n c)) = .slice (some a) m c := by
   simp only [cutV, capN, Nat.zero_mul, Option.map_some, add_zero', Nat.sub_zero, ite_self]
  rw [e]
  have hl : n = xs.length := h.len
  have hc : n ≤ c := h.cap
  refine ⟨trivial, by simp only [lenN, List.length_take]; omega, by simp only [lenN, capN]; omega, h.max, fun b hb hlt => h.lt b hb (by rw [List.length_take] at hlt; omega), fun i hi => ?_⟩
  rw [List.length_take] at hi
  rw [List.getElem_take]
  exact h.rd i (by omega)
theorem few26_no {s : SiteD} {wl : List ServiceD} {x : WorldD} (h : 20 < s.hosts.length ∨ 10 < s.racks.length ∨ 20 < s.links.length ∨ 10 < wl.length ∨ 20 < x.hosts.length ∨ 30 < x.replicas.length) : few26B s wl x = false := by
 rw [← Bool.not_eq_true]
 intro h2
 simp only [few26B, Bool.and_eq_true, decide_eq_true_eq] at h2
 omega
theorem few26_yes {s : SiteD} {wl : List ServiceD} {x : WorldD} (h : s.hosts.length ≤ 20 ∧ s.racks.length ≤ 10 ∧ s.links.length ≤ 20 ∧ wl.length ≤ 10 ∧ x.hosts.length ≤ 20 ∧ x.replicas.length ≤ 30) : few26B s wl x = true := by
 simp only [few26B, h, decide_true, Bool.true_and]
section
variable {w : World} {B B' : Nat} {u : SiteVs} {s : SiteD} {wv hv rv : Value} {sl : List SrvV} {x : WorldD} {l : List ReplyD} {v : Value}
theorem few26_len {wl : List ServiceD} (h : few26B s wl x = true) : x.hosts.length ≤ 20 ∧ x.replicas.length ≤ 30 ∧ s.hosts.length ≤ 20 := by
 simp only [few26B, Bool.and_eq_true, decide_eq_true_eq] at h
 omega
theorem few26 (hB : B ≤ w.heap.size) (hs : SiteR w B u s) (hl : WishR w B wv sl) (hx0 : WorldR w B hv rv x) : Ret Tryz.prog 8 #[.agg (siteC u s).toArray, .agg #[wv], .agg #[hv, rv]] w (.bool (few26B s (sl.map (·.x)) x)) := by
 have hn : Now w := trivial
 have hx : Ext w w := Ext.refl w
 have hs' := hs.sk hB
 have hl' := hl.sk hB
 have hx' := hx0.sk hB
 (refine callsV_of Tryz.func8 rfl KR KR ?_; rw [Tryz.results8])
 (repeat' first
  | ((with_reducible refine at_row ?_); refine row1_a fun _ _ _ _ _ _ _ => ?_)
  | with_reducible first | (first | apply alloc_k | apply row_k); intro _ _ _ _ _ _ | (first | apply fork | apply forkp) <;> intro _ | refine forke (fun _ => ?_) fun _ _ => ?_ | refine tail_k fun _ _ _ => ?_ | refine ext_k fun _ _ _ => ?_ | refine need_a ?_ | refine st_agg KR rfl ON fun _ _ _ _ => ?_ | refine wpd_q_a ?_
  | simp (maxDischargeDepth := 3) only [↓X, ↓Y, ↓Q, S1, ↓reduceIte, Nat.reduceEqDiff, Nat.reduceAdd, Int.reduceLT, Int.reduceLE, Int.reduceNeg, Int.reduceBEq, Int.reduceBNe, Int.reduceEq, Nat.reduceLeDiff, Nat.reduceMul, Nat.reduceLT, *, siteC]
  | simp (singlePass := true) (maxDischargeDepth := 99) only [*, S2, Nat.reduceLT, siteC])
 all_goals first
  | (rw [few26_no (by simp only [List.length_map]; omega)]; done)
  | (rcases Nat.lt_or_ge 30 x.replicas.length with h60 | h60 <;> first | (rw [few26_no (by simp only [List.length_map]; omega), decide_eq_false (by omega)]; done) | (rw [few26_yes (by simp only [List.length_map]; omega), decide_eq_true (by omega)]; done))
end
end Go.Proofs.YtblegjdogmcgbaaGreat
/- The examples of the statements on layer 26. -/
namespace Go.Proofs.YtblegjdogmcgbaaGreat
set_option linter.unusedSimpArgs false
set_option linter.unusedVariables false
open Go Go.RowKit
set_option maxRecDepth 100000
set_option linter.unusedSectionVars false
set_option maxHeartbeats 4000000
def reqEx : RequestD := ⟨7, 20, ⟨1, 1, 0, 0⟩⟩
theorem ex26_one : handleD siteEx26 [srvEx1, srvEx2] worldEx [] reqEx 20 = ⟨worldEx1, [⟨7, 1⟩], ⟨7, 1⟩, 0⟩ := by kernel_rfl
theorem ex26_two : handleD siteEx26 [srvEx1, srvEx2] worldEx1 [⟨7, 1⟩] reqEx 30 = ⟨worldEx1, [⟨7, 1⟩], ⟨7, 1⟩, 0⟩ := by kernel_rfl
theorem ex26_three : handleD siteEx26 [srvEx1, srvEx2] worldEx [] reqEx 21 = ⟨worldEx, [⟨7, 2⟩], ⟨7, 2⟩, 0⟩ := by kernel_rfl
theorem ex26_has : hasB worldEx1.replicas ⟨0, 1⟩ = true := by kernel_rfl
theorem HandR.ext {B : Nat} {v : Value} {w w' : World} {d : HandleD} (h : HandR B v w d) (hx : Ext w w') : HandR B v w' d := by
 obtain ⟨v0, a, e, ⟨h1, r1, e1, o1, o2⟩, oa⟩ := h
 exact ⟨v0, a, e, ⟨h1, r1, e1, o1.ext hx, o2.ext hx⟩, oa.ext hx⟩
theorem Own.fra {w w' : World} {B e sz b T : Nat} {v : Value} {cs : List (List Value)} {z : List Value} (h : Own w B e sz v cs) (hz : Blk w b T z) (hc : Chg w w' b) (hne : T ≠ e ∨ ∃ x y, cs.flatten[0]? = some x ∧ z[0]? = some y ∧ x ≠ y := by first | exact .inl (by decide) | exact .inr ⟨_, _, rfl, rfl, by simp [intV]⟩) : Own w' B e sz v cs := h.fr hz hc hne
theorem Blk.fra {w w' : World} {b b' T T' : Nat} {z z' : List Value} (h : Blk w b' T' z') (hz : Blk w b T z) (hc : Chg w w' b) (hne : T ≠ T' ∨ z' ≠ z := by exact .inl (by decide)) : Blk w' b' T' z' := h.fr hz hc hne
theorem OwnW.fr {B b T : Nat} {v : Value} {w w' : World} {x : WorldD} {z : List Value} (h : OwnW B v w x) (hz : Blk w b T z) (hc : Chg w w' b) (h1 : T ≠ 76 := by decide) (h2 : T ≠ 78 := by decide) : OwnW B v w' x := by
 obtain ⟨h', r', e, o1, o2⟩ := h
 exact ⟨h', r', e, o1.fr hz hc (.inl h1), o2.fr hz hc (.inl h2)⟩
theorem HandR.fr {B b T : Nat} {v : Value} {w w' : World} {d : HandleD} {z : List Value} (h : HandR B v w d) (hz : Blk w b T z) (hc : Chg w w' b) (h1 : T ≠ 76 := by decide) (h2 : T ≠ 78 := by decide) (h3 : T ≠ 50 ∨ ∃ x y, (d.a.map replyC).flatten[0]? = some x ∧ z[0]? = some y ∧ x ≠ y := by first | exact .inl (by decide) | exact .inr ⟨_, _, rfl, rfl, by simp [intV]⟩) : HandR B v w' d := by
 obtain ⟨v0, a, e, o, oa⟩ := h
 exact ⟨v0, a, e, o.fr hz hc h1 h2, oa.fr hz hc h3⟩
theorem hand26 {w w0 : World} {B1 B2 B3 B4 : Nat} {u : SiteVs} {wv hv rv av : Value} {sl : List SrvV} {wl : List ServiceD} {s : SiteD} {x : WorldD} {l : List ReplyD} {now : Int} {d : HandleD} (r : RequestD) (_n : Now w) (hsl : sl.map (·.x) = wl) (hS : SiteR w B1 u s) (hW : WishR w B2 wv sl) (hX : WorldR w B3 hv rv x) (hz : w0.heap.size ≤ w.heap.size) (ha : Sl w B4 (some 2) 2 av (l.map replyV)) (hd : handleD s wl x l r now = d) (h1 : B1 ≤ w.heap.size) (h2 : B2 ≤ w.heap.size) (h3 : B3 ≤ w.heap.size) (h4 : B4 ≤ w.heap.size) (hlen : l.length ≤ 1000000) :
  CallsV Tryz.prog 11 #[.agg (siteC u s).toArray, .agg #[wv], .agg #[hv, rv], .agg #[av], requestV r, intV now] w fun v w' => Ext w w' ∧ HandR w0.heap.size v w' d := by
 subst hd hsl
 refine CallsV.mono (agentHandle (B := w.heap.size) (Nat.le_refl _) (hS.up h1) (hW.up h2) (hX.up h3) (ha.more h4) hlen) fun v w' hh => ⟨hh.1, ?_⟩
 obtain ⟨v0, a, e, ⟨h', r', e', o1, o2⟩, oa⟩ := hh.2
 exact ⟨v0, a, e, ⟨h', r', e', o1.more hz, o2.more hz⟩, oa.more hz⟩
theorem law26lives {w : World} : Ret Tryz.prog 9 #[] w (.bool true) := by
 have hn : Now w := trivial
 have hx : Ext w w := Ext.refl w
 (refine callsV_of Tryz.func9 rfl KR KR ?_; rw [Tryz.results9])
 (repeat' first
  | ((with_reducible refine at_row ?_); refine row1_a fun _ _ _ _ _ _ _ => ?_)
  | with_reducible first | (first | apply alloc_k | apply row_k); intro _ _ _ _ _ _ | (first | apply fork | apply forkp) <;> intro _ | refine forke (fun _ => ?_) fun _ _ => ?_ | refine tail_k fun _ _ _ => ?_ | refine ext_k fun _ _ _ => ?_ | refine need_a ?_ | refine st_agg KR rfl ON fun _ _ _ _ => ?_ | refine wpd_q_a ?_
  | simp (maxDischargeDepth := 3) only [↓X, ↓Y, ↓Q, S1, ↓reduceIte, Nat.reduceEqDiff, Nat.reduceAdd, Int.reduceLT, Int.reduceLE, Int.reduceNeg, Int.reduceBEq, Int.reduceBNe, Int.reduceEq, Nat.reduceLeDiff, Nat.reduceMul, Nat.reduceLT, *]
  | simp (singlePass := true) (maxDischargeDepth := 99) only [*, S2, Nat.reduceLT])
 refine call_k law26small ?_
 rintro _ w1 n1 s1 ⟨u, wv, sl, hv, rv, rfl, hs, hl, hsl, hx0⟩
 have S0 := hs.sk (Nat.le_refl _)
 have W0 := hl.sk (Nat.le_refl _)
 have X0 := hx0.sk (Nat.le_refl _)
 have hS := S0.2.2.2.2.2.2
 have hW := W0.2.2
 have hX := X0.2.2.2.2
 clear hs hl hx0
 (repeat' first
  | ((with_reducible refine wpd_at 2 ?_); refine wpd_hold ?_)
  | ((with_reducible refine at_row ?_); refine row1_a fun _ _ _ _ _ _ _ => ?_)
  | with_reducible first | (first | apply alloc_k | apply row_k); intro _ _ _ _ _ _ | (first | apply fork | apply forkp) <;> intro _ | refine forke (fun _ => ?_) fun _ _ => ?_ | refine tail_k fun _ _ _ => ?_ | refine ext_k fun _ _ _ => ?_ | refine need_a ?_ | refine st_agg KR rfl ON fun _ _ _ _ => ?_ | refine wpd_q_a ?_
  | simp (maxDischargeDepth := 3) only [↓X, ↓Y, ↓Q, S1, ↓reduceIte, Nat.reduceEqDiff, Nat.reduceAdd, Int.reduceLT, Int.reduceLE, Int.reduceNeg, Int.reduceBEq, Int.reduceBNe, Int.reduceEq, Nat.reduceLeDiff, Nat.reduceMul, Nat.reduceLT, *, siteC]
  | simp (singlePass := true) (maxDischargeDepth := 99) only [*, S2, Nat.reduceLT, siteC])
 rename_i t1 v1 m1 r1 p1 y1 t2 v2 m2 r2 p2 y2 t3 v3 m3 r3 p3 y3 wa na ka sa wb nb kb sb wc nc kc sc
 unfold wpdH
 refine wpd_relS 17 [(14, 11), (15, 12), (16, 13)] (fun iI s v w9 => match iI with
  | 0 => v = .agg (siteC u siteEx26).toArray
  | 1 => v = .agg #[wv]
  | 2 => v = .agg #[hv, rv]
  | 3 => v = .agg #[.slice none 0 0]
  | 4 => v = requestV ⟨7, 20, ⟨1, 1, 0, 0⟩⟩
  | 5 => HandR wc.heap.size v w9 ⟨worldEx1, [⟨7, 1⟩], ⟨7, 1⟩, 0⟩
  | 6 => HandR wc.heap.size v w9 ⟨worldEx1, [⟨7, 1⟩], ⟨7, 1⟩, 0⟩
  | 7 => OwnW wc.heap.size v w9 worldEx1
  | 8 => ∃ a, v = .agg #[a] ∧ OwnA w9 wc.heap.size a [⟨7, 1⟩]
  | 9 => v = replyV ⟨7, 1⟩
  | 10 => v = intV 0
  | 11 => ∃ b, v = .pointer (some ⟨b, 0, none⟩) ∧ wc.heap.size ≤ b ∧ (s = false → Blk w9 b 36 [.slice none 0 0, .slice none 0 0]) ∧ (s = true → ∃ h r, Blk w9 b 36 [h, r] ∧ OwnH w9 wc.heap.size h worldEx1.hosts ∧ OwnP w9 wc.heap.size r worldEx1.replicas)
  | 12 => ∃ b, v = .pointer (some ⟨b, 0, none⟩) ∧ wc.heap.size ≤ b ∧ (s = false → Blk w9 b 39 [.slice none 0 0]) ∧ (s = true → ∃ a, Blk w9 b 39 [a] ∧ OwnA w9 wc.heap.size a [⟨7, 1⟩])
  | 13 => ∃ b, v = .pointer (some ⟨b, 0, none⟩) ∧ wc.heap.size ≤ b ∧ (s = false → Blk w9 b 50 [intV 0, .int .u8 0]) ∧ (s = true → Blk w9 b 50 [intV 7, .int .u8 1])
  | 14 => True
  | 15 => True
  | 16 => True
  | _ => False) KR KR KR KR ?_ ?_ ?_
 ·intro iI s v w1 w2 hR hx9
  match iI, hR with
  | 0, h => exact h
  | 1, h => exact h
  | 2, h => exact h
  | 3, h => exact h
  | 4, h => exact h
  | 5, h => exact HandR.ext h hx9
  | 6, h => exact HandR.ext h hx9
  | 7, h => exact OwnW.ext h hx9
  | 8, h => exact (let ⟨a, e, k⟩ := h; ⟨a, e, k.ext hx9⟩)
  | 9, h => exact h
  | 10, h => exact h
  | 11, ⟨b, e, h1, h2, h3⟩ => exact ⟨b, e, h1, fun hs => (h2 hs).ext hx9, fun hs => (fun h => (let ⟨a, b, k, o1, o2⟩ := h; ⟨a, b, k.ext hx9, o1.ext hx9, o2.ext hx9⟩)) (h3 hs)⟩
  | 12, ⟨b, e, h1, h2, h3⟩ => exact ⟨b, e, h1, fun hs => (h2 hs).ext hx9, fun hs => (fun h => (let ⟨a, k, o1⟩ := h; ⟨a, k.ext hx9, o1.ext hx9⟩)) (h3 hs)⟩
  | 13, ⟨b, e, h1, h2, h3⟩ => exact ⟨b, e, h1, fun hs => (h2 hs).ext hx9, fun hs => (fun h => h.ext hx9) (h3 hs)⟩
  | 14, h => exact h
  | 15, h => exact h
  | 16, h => exact h
 ·intro iI oO hi ho gF w9 S9 hx9 hdep hag
  have s9 := hx9.st
  have n9 : Now w9 := trivial
  have r9 := Ext.refl w9
  have z9 := hx9.size
  rcases iI with _|_|_|_|_|_|_|_|_|_|_|_|_|_|_|_|_|iI
  have e := Option.some.inj ho
  subst e
  have a1 := hag.at 1 KR
  simp only [S5, ↓reduceIte, Nat.reduceEqDiff, initF, *] at a1
  clear hag hdep ho
  refine ⟨fun _ => ?_, fun a9 pa da hal => by simp [alL] at hal⟩
  refine relStep_off rfl ?_
  rotate_left
  have e := Option.some.inj ho
  subst e
  have a2 := hag.at 2 KR
  simp only [S5, ↓reduceIte, Nat.reduceEqDiff, initF, *] at a2
  clear hag hdep ho
  refine ⟨fun _ => ?_, fun a9 pa da hal => by simp [alL] at hal⟩
  refine relStep_off rfl ?_
  rotate_left
  have e := Option.some.inj ho
  subst e
  have a3 := hag.at 3 KR
  simp only [S5, ↓reduceIte, Nat.reduceEqDiff, initF, *] at a3
  clear hag hdep ho
  refine ⟨fun _ => ?_, fun a9 pa da hal => by simp [alL] at hal⟩
  refine relStep_off rfl ?_
  rotate_left
  have e := Option.some.inj ho
  subst e
  clear hag hdep ho
  refine ⟨fun _ => ?_, fun a9 pa da hal => by simp [alL] at hal⟩
  refine relStep_off rfl ?_
  rotate_left
  have e := Option.some.inj ho
  subst e
  clear hag hdep ho
  refine ⟨fun _ => ?_, fun a9 pa da hal => by simp [alL] at hal⟩
  refine relStep_off rfl ?_
  rotate_left
  have e := Option.some.inj ho
  subst e
  have d0 : (gF 23) = .agg (siteC u siteEx26).toArray := hdep ⟨0, .data⟩ (by simp) rfl _ _ rfl rfl
  have d1 : (gF 24) = .agg #[wv] := hdep ⟨1, .data⟩ (by simp) rfl _ _ rfl rfl
  have d2 : (gF 25) = .agg #[hv, rv] := hdep ⟨2, .data⟩ (by simp) rfl _ _ rfl rfl
  have d3 : (gF 26) = .agg #[.slice none 0 0] := hdep ⟨3, .data⟩ (by simp) rfl _ _ rfl rfl
  have d4 : (gF 27) = requestV ⟨7, 20, ⟨1, 1, 0, 0⟩⟩ := hdep ⟨4, .data⟩ (by simp) rfl _ _ rfl rfl
  clear hag hdep ho
  refine ⟨fun _ => ?_, fun a9 pa da hal => by simp [alL] at hal⟩
  refine relStep_off rfl ?_
  rotate_left
  have e := Option.some.inj ho
  subst e
  have d5 : HandR wc.heap.size (gF 28) w9 ⟨worldEx1, [⟨7, 1⟩], ⟨7, 1⟩, 0⟩ := hdep ⟨5, .data⟩ (by simp) rfl _ _ rfl rfl
  clear hag hdep ho
  refine ⟨fun _ => ?_, fun a9 pa da hal => by simp [alL] at hal⟩
  refine relStep_off rfl ?_
  rotate_left
  have e := Option.some.inj ho
  subst e
  have d6 : HandR wc.heap.size (gF 22) w9 ⟨worldEx1, [⟨7, 1⟩], ⟨7, 1⟩, 0⟩ := hdep ⟨6, .data⟩ (by simp) rfl _ _ rfl rfl
  obtain ⟨v6, a6, e6, o6, oa6⟩ := d6
  clear hag hdep ho
  refine ⟨fun _ => ?_, fun a9 pa da hal => by simp [alL] at hal⟩
  refine relStep_off rfl ?_
  rotate_left
  have e := Option.some.inj ho
  subst e
  have d6 : HandR wc.heap.size (gF 22) w9 ⟨worldEx1, [⟨7, 1⟩], ⟨7, 1⟩, 0⟩ := hdep ⟨6, .data⟩ (by simp) rfl _ _ rfl rfl
  obtain ⟨v6, a6, e6, o6, oa6⟩ := d6
  clear hag hdep ho
  refine ⟨fun _ => ?_, fun a9 pa da hal => by simp [alL] at hal⟩
  refine relStep_off rfl ?_
  rotate_left
  have e := Option.some.inj ho
  subst e
  have d6 : HandR wc.heap.size (gF 22) w9 ⟨worldEx1, [⟨7, 1⟩], ⟨7, 1⟩, 0⟩ := hdep ⟨6, .data⟩ (by simp) rfl _ _ rfl rfl
  obtain ⟨v6, a6, e6, o6, oa6⟩ := d6
  clear hag hdep ho
  refine ⟨fun _ => ?_, fun a9 pa da hal => by simp [alL] at hal⟩
  refine relStep_off rfl ?_
  rotate_left
  have e := Option.some.inj ho
  subst e
  have d6 : HandR wc.heap.size (gF 22) w9 ⟨worldEx1, [⟨7, 1⟩], ⟨7, 1⟩, 0⟩ := hdep ⟨6, .data⟩ (by simp) rfl _ _ rfl rfl
  obtain ⟨v6, a6, e6, o6, oa6⟩ := d6
  clear hag hdep ho
  refine ⟨fun _ => ?_, fun a9 pa da hal => by simp [alL] at hal⟩
  refine relStep_off rfl ?_
  rotate_left
  have e := Option.some.inj ho
  subst e
  clear hag hdep ho
  refine ⟨fun _ => ?_, fun a9 pa da hal => by simp [alL] at hal⟩
  refine relStep_off rfl ?_
  rotate_left
  have e := Option.some.inj ho
  subst e
  clear hag hdep ho
  refine ⟨fun _ => ?_, fun a9 pa da hal => by simp [alL] at hal⟩
  refine relStep_off rfl ?_
  rotate_left
  have e := Option.some.inj ho
  subst e
  clear hag hdep ho
  refine ⟨fun _ => ?_, fun a9 pa da hal => by simp [alL] at hal⟩
  refine relStep_off rfl ?_
  rotate_left
  have e := Option.some.inj ho
  subst e
  have d11 : ∃ b, (gF 4) = .pointer (some ⟨b, 0, none⟩) ∧ wc.heap.size ≤ b ∧ ((S9 11) = false → Blk w9 b 36 [.slice none 0 0, .slice none 0 0]) ∧ ((S9 11) = true → ∃ h r, Blk w9 b 36 [h, r] ∧ OwnH w9 wc.heap.size h worldEx1.hosts ∧ OwnP w9 wc.heap.size r worldEx1.replicas) := hdep ⟨11, .data⟩ (by simp) rfl _ _ rfl rfl
  obtain ⟨b11, e11, q11, hz11, _⟩ := d11
  have d7 : OwnW wc.heap.size (gF 29) w9 worldEx1 := hdep ⟨7, .data⟩ (by simp) rfl _ _ rfl rfl
  obtain ⟨h7, r7, e7, oh7, or7⟩ := d7
  have H7 := oh7.one
  have R7 := or7.one
  clear hag hdep ho
  refine ⟨fun h => by simp [alL] at h, fun a9 pa da hal hS9 hpa hda => ?_⟩
  obtain rfl : 11 = a9 := by simpa [alL] using hal
  obtain rfl := Option.some.inj hpa
  obtain rfl := Option.some.inj hda
  have hz := hz11 hS9
  clear hal hpa hda hz11
  refine relStep_off rfl ?_
  rotate_left
  have e := Option.some.inj ho
  subst e
  have d12 : ∃ b, (gF 5) = .pointer (some ⟨b, 0, none⟩) ∧ wc.heap.size ≤ b ∧ ((S9 12) = false → Blk w9 b 39 [.slice none 0 0]) ∧ ((S9 12) = true → ∃ a, Blk w9 b 39 [a] ∧ OwnA w9 wc.heap.size a [⟨7, 1⟩]) := hdep ⟨12, .data⟩ (by simp) rfl _ _ rfl rfl
  obtain ⟨b12, e12, q12, hz12, _⟩ := d12
  have d8 : ∃ a, (gF 30) = .agg #[a] ∧ OwnA w9 wc.heap.size a [⟨7, 1⟩] := hdep ⟨8, .data⟩ (by simp) rfl _ _ rfl rfl
  obtain ⟨a8, e8, oa8⟩ := d8
  have A8 := oa8.one
  clear hag hdep ho
  refine ⟨fun h => by simp [alL] at h, fun a9 pa da hal hS9 hpa hda => ?_⟩
  obtain rfl : 12 = a9 := by simpa [alL] using hal
  obtain rfl := Option.some.inj hpa
  obtain rfl := Option.some.inj hda
  have hz := hz12 hS9
  clear hal hpa hda hz12
  refine relStep_off rfl ?_
  rotate_left
  have e := Option.some.inj ho
  subst e
  have d13 : ∃ b, (gF 6) = .pointer (some ⟨b, 0, none⟩) ∧ wc.heap.size ≤ b ∧ ((S9 13) = false → Blk w9 b 50 [intV 0, .int .u8 0]) ∧ ((S9 13) = true → Blk w9 b 50 [intV 7, .int .u8 1]) := hdep ⟨13, .data⟩ (by simp) rfl _ _ rfl rfl
  obtain ⟨b13, e13, q13, hz13, _⟩ := d13
  have d9 : (gF 31) = replyV ⟨7, 1⟩ := hdep ⟨9, .data⟩ (by simp) rfl _ _ rfl rfl
  clear hag hdep ho
  refine ⟨fun h => by simp [alL] at h, fun a9 pa da hal hS9 hpa hda => ?_⟩
  obtain rfl : 13 = a9 := by simpa [alL] using hal
  obtain rfl := Option.some.inj hpa
  obtain rfl := Option.some.inj hda
  have hz := hz13 hS9
  clear hal hpa hda hz13
  refine relStep_off rfl ?_
  rotate_left
  ·omega
  all_goals (repeat' first
  | ((with_reducible refine at_row ?_); refine row1_a fun _ _ _ _ _ _ _ => ?_)
  | with_reducible first | (first | apply alloc_k | apply row_k); intro _ _ _ _ _ _ | (first | apply fork | apply forkp) <;> intro _ | refine forke (fun _ => ?_) fun _ _ => ?_ | refine tail_k fun _ _ _ => ?_ | refine ext_k fun _ _ _ => ?_ | refine need_a ?_ | refine st_agg KR rfl ON fun _ _ _ _ => ?_ | refine wpd_q_a ?_
  | ((with_reducible refine at_f 26 ?_); refine ret_k (law26starts (id := 7) (lease := 20) (service := 0) (host := 1)) fun _ _ _ => ?_)
  | simp (maxDischargeDepth := 3) only [↓X, ↓Y, ↓Q, S1, ↓reduceIte, Nat.reduceEqDiff, Nat.reduceAdd, Int.reduceLT, Int.reduceLE, Int.reduceNeg, Int.reduceBEq, Int.reduceBNe, Int.reduceEq, Nat.reduceLeDiff, Nat.reduceMul, Nat.reduceLT, *, siteC]
  | simp (singlePass := true) (maxDischargeDepth := 99) only [*, S2, Nat.reduceLT, siteC])
  all_goals first
   | (refine hand26 ⟨7, 20, ⟨1, 1, 0, 0⟩⟩ n9 hsl (hS _ FR) (hW _ FR) (hX _ FR) z9 (Sl.nil _ 0 _ _) ex26_one FR FR FR (Nat.zero_le _) (by decide))
   | (exact d5)
   | (exact o6)
   | (exact ⟨_, rfl, oa6⟩)
   | (rename_i b10 w10 n10 k10 s10 q10; exact ⟨_, rfl, FR, fun _ => k10.2.1 _ k10.2.2.1, fun h => absurd h (by decide)⟩)
   | (
     refine stT_agg (w0 := w9) (vs := [h7, r7]) hz rfl KR rfl (by simp [H7, R7]) fun w10 hb10 hc => ⟨b11, hc, q11, ⟨b11, (by first | exact e11 | rfl), q11, fun h => absurd h (by decide), fun _ => ⟨h7, r7, hb10, oh7.fra hz hc, or7.fra hz hc⟩⟩, ?_⟩
     intro iI s v hne hR
     match iI, hR with
     | 0, h | 1, h | 2, h | 3, h | 4, h | 9, h | 10, h | 14, h | 15, h | 16, h => exact h
     | 5, h => exact HandR.fr h hz hc
     | 6, h => exact HandR.fr h hz hc
     | 7, h => exact OwnW.fr h hz hc
     | 8, h => exact (let ⟨a, e, k⟩ := h; ⟨a, e, k.fra hz hc⟩)
     | 11, _ => exact absurd rfl hne
     | 12, ⟨b, e, h1, h2, h3⟩ => exact ⟨b, e, h1, fun hs => Blk.fr (h2 hs) hz hc (by first | exact .inl (by decide) | exact .inr (by simp [natV, intV])), fun hs => (fun h => (let ⟨a, k, o1⟩ := h; ⟨a, k.fra hz hc, o1.fra hz hc⟩)) (h3 hs)⟩
     | 13, ⟨b, e, h1, h2, h3⟩ => exact ⟨b, e, h1, fun hs => Blk.fr (h2 hs) hz hc (by first | exact .inl (by decide) | exact .inr (by simp [natV, intV])), fun hs => (fun h => h.fra hz hc) (h3 hs)⟩)
   | (
     refine stT_agg (w0 := w9) (vs := [a8]) hz rfl KR rfl (by simp [A8]) fun w10 hb10 hc => ⟨b12, hc, q12, ⟨b12, (by first | exact e12 | rfl), q12, fun h => absurd h (by decide), fun _ => ⟨a8, hb10, oa8.fra hz hc⟩⟩, ?_⟩
     intro iI s v hne hR
     match iI, hR with
     | 0, h | 1, h | 2, h | 3, h | 4, h | 9, h | 10, h | 14, h | 15, h | 16, h => exact h
     | 5, h => exact HandR.fr h hz hc
     | 6, h => exact HandR.fr h hz hc
     | 7, h => exact OwnW.fr h hz hc
     | 8, h => exact (let ⟨a, e, k⟩ := h; ⟨a, e, k.fra hz hc⟩)
     | 11, ⟨b, e, h1, h2, h3⟩ => exact ⟨b, e, h1, fun hs => Blk.fr (h2 hs) hz hc (by first | exact .inl (by decide) | exact .inr (by simp [natV, intV])), fun hs => (fun h => (let ⟨a, b, k, o1, o2⟩ := h; ⟨a, b, k.fra hz hc, o1.fra hz hc, o2.fra hz hc⟩)) (h3 hs)⟩
     | 12, _ => exact absurd rfl hne
     | 13, ⟨b, e, h1, h2, h3⟩ => exact ⟨b, e, h1, fun hs => Blk.fr (h2 hs) hz hc (by first | exact .inl (by decide) | exact .inr (by simp [natV, intV])), fun hs => (fun h => h.fra hz hc) (h3 hs)⟩)
   | (
     refine stT_agg (w0 := w9) (vs := [intV 7, .int .u8 1]) hz rfl KR rfl (by simp [intV, one_int]) fun w10 hb10 hc => ⟨b13, hc, q13, ⟨b13, (by first | exact e13 | rfl), q13, fun h => absurd h (by decide), fun _ => hb10⟩, ?_⟩
     intro iI s v hne hR
     match iI, hR with
     | 0, h | 1, h | 2, h | 3, h | 4, h | 9, h | 10, h | 14, h | 15, h | 16, h => exact h
     | 5, h => exact HandR.fr h hz hc
     | 6, h => exact HandR.fr h hz hc
     | 7, h => exact OwnW.fr h hz hc
     | 8, h => exact (let ⟨a, e, k⟩ := h; ⟨a, e, k.fra hz hc⟩)
     | 11, ⟨b, e, h1, h2, h3⟩ => exact ⟨b, e, h1, fun hs => Blk.fr (h2 hs) hz hc (by first | exact .inl (by decide) | exact .inr (by simp [natV, intV])), fun hs => (fun h => (let ⟨a, b, k, o1, o2⟩ := h; ⟨a, b, k.fra hz hc, o1.fra hz hc, o2.fra hz hc⟩)) (h3 hs)⟩
     | 12, ⟨b, e, h1, h2, h3⟩ => exact ⟨b, e, h1, fun hs => Blk.fr (h2 hs) hz hc (by first | exact .inl (by decide) | exact .inr (by simp [natV, intV])), fun hs => (fun h => (let ⟨a, k, o1⟩ := h; ⟨a, k.fra hz hc, o1.fra hz hc⟩)) (h3 hs)⟩
     | 13, _ => exact absurd rfl hne)
 ·intro g9 w9 hx9 hR hag
  have s9 := hx9.st
  have n9 : Now w9 := trivial
  have r9 := Ext.refl w9
  have z9 := hx9.size
  have d10 : (g9 32) = intV 0 := hR 10 _ _ (by decide) rfl rfl
  have d11 : ∃ b, (g9 4) = .pointer (some ⟨b, 0, none⟩) ∧ wc.heap.size ≤ b ∧ (true = false → Blk w9 b 36 [.slice none 0 0, .slice none 0 0]) ∧ (true = true → ∃ h r, Blk w9 b 36 [h, r] ∧ OwnH w9 wc.heap.size h worldEx1.hosts ∧ OwnP w9 wc.heap.size r worldEx1.replicas) := hR 11 _ _ (by decide) rfl rfl
  obtain ⟨b11, e11, q11, _, f11⟩ := d11
  replace f11 := f11 rfl
  have nw11 := Nw.of q11
  obtain ⟨hA, rA, kwA, ohA, orA⟩ := f11
  have KWA := kwA.bk
  have HA := ohA.o
  have RA := orA.o
  clear kwA ohA orA
  have d12 : ∃ b, (g9 5) = .pointer (some ⟨b, 0, none⟩) ∧ wc.heap.size ≤ b ∧ (true = false → Blk w9 b 39 [.slice none 0 0]) ∧ (true = true → ∃ a, Blk w9 b 39 [a] ∧ OwnA w9 wc.heap.size a [⟨7, 1⟩]) := hR 12 _ _ (by decide) rfl rfl
  obtain ⟨b12, e12, q12, _, f12⟩ := d12
  replace f12 := f12 rfl
  have nw12 := Nw.of q12
  obtain ⟨aA, kaA, oaA⟩ := f12
  have KAA := kaA.bk
  have AA := oaA.o
  clear kaA oaA
  have d13 : ∃ b, (g9 6) = .pointer (some ⟨b, 0, none⟩) ∧ wc.heap.size ≤ b ∧ (true = false → Blk w9 b 50 [intV 0, .int .u8 0]) ∧ (true = true → Blk w9 b 50 [intV 7, .int .u8 1]) := hR 13 _ _ (by decide) rfl rfl
  obtain ⟨b13, e13, q13, _, f13⟩ := d13
  replace f13 := f13 rfl
  have nw13 := Nw.of q13
  have KPA := f13.bk
  have a1 := hag.at 1 KR
  have a2 := hag.at 2 KR
  have a3 := hag.at 3 KR
  simp only [S5, ↓reduceIte, Nat.reduceEqDiff, initF, *] at a1 a2 a3
  clear hag hR
  simp only [List.drop_succ_cons, List.drop_zero]
  (repeat' first
  | ((with_reducible refine wpd_at 3 ?_); refine wpd_hold ?_)
  | ((with_reducible refine at_row ?_); refine row1_a fun _ _ _ _ _ _ _ => ?_)
  | with_reducible first | (first | apply alloc_k | apply row_k); intro _ _ _ _ _ _ | (first | apply fork | apply forkp) <;> intro _ | refine forke (fun _ => ?_) fun _ _ => ?_ | refine tail_k fun _ _ _ => ?_ | refine ext_k fun _ _ _ => ?_ | refine need_a ?_ | refine st_agg KR rfl ON fun _ _ _ _ => ?_ | refine wpd_q_a ?_
  | simp (maxDischargeDepth := 3) only [↓X, ↓Y, ↓Q, S1, ↓reduceIte, Nat.reduceEqDiff, Nat.reduceAdd, Int.reduceLT, Int.reduceLE, Int.reduceNeg, Int.reduceBEq, Int.reduceBNe, Int.reduceEq, Nat.reduceLeDiff, Nat.reduceMul, Nat.reduceLT, *, siteC]
  | simp (singlePass := true) (maxDischargeDepth := 99) only [*, S2, Nat.reduceLT, siteC])
  obtain ⟨wd, hw9⟩ : ∃ x, x = w9 := ⟨_, rfl⟩
  subst hw9
  rename_i q1 q2 q3
  clear q1 q2 q3
  unfold wpdH
  refine wpd_relS 17 [(14, 11), (15, 12), (16, 13)] (fun iI s v w9 => match iI with
   | 0 => v = .agg (siteC u siteEx26).toArray
   | 1 => v = .agg #[wv]
   | 2 => v = .agg #[hA, rA]
   | 3 => v = .agg #[aA]
   | 4 => v = requestV ⟨7, 20, ⟨1, 1, 0, 0⟩⟩
   | 5 => HandR wd.heap.size v w9 ⟨worldEx1, [⟨7, 1⟩], ⟨7, 1⟩, 0⟩
   | 6 => HandR wd.heap.size v w9 ⟨worldEx1, [⟨7, 1⟩], ⟨7, 1⟩, 0⟩
   | 7 => OwnW wd.heap.size v w9 worldEx1
   | 8 => ∃ a, v = .agg #[a] ∧ OwnA w9 wd.heap.size a [⟨7, 1⟩]
   | 9 => v = replyV ⟨7, 1⟩
   | 10 => v = intV 0
   | 11 => ∃ b, v = .pointer (some ⟨b, 0, none⟩) ∧ wd.heap.size ≤ b ∧ (s = false → Blk w9 b 36 [.slice none 0 0, .slice none 0 0]) ∧ (s = true → ∃ h r, Blk w9 b 36 [h, r] ∧ OwnH w9 wd.heap.size h worldEx1.hosts ∧ OwnP w9 wd.heap.size r worldEx1.replicas)
   | 12 => ∃ b, v = .pointer (some ⟨b, 0, none⟩) ∧ wd.heap.size ≤ b ∧ (s = false → Blk w9 b 39 [.slice none 0 0]) ∧ (s = true → ∃ a, Blk w9 b 39 [a] ∧ OwnA w9 wd.heap.size a [⟨7, 1⟩])
   | 13 => ∃ b, v = .pointer (some ⟨b, 0, none⟩) ∧ wd.heap.size ≤ b ∧ (s = false → Blk w9 b 50 [intV 0, .int .u8 0]) ∧ (s = true → Blk w9 b 50 [intV 7, .int .u8 1])
   | 14 => True
   | 15 => True
   | 16 => True
   | _ => False) KR KR KR KR ?_ ?_ ?_
  ·intro iI s v w1 w2 hR hx9
   match iI, hR with
   | 0, h => exact h
   | 1, h => exact h
   | 2, h => exact h
   | 3, h => exact h
   | 4, h => exact h
   | 5, h => exact HandR.ext h hx9
   | 6, h => exact HandR.ext h hx9
   | 7, h => exact OwnW.ext h hx9
   | 8, h => exact (let ⟨a, e, k⟩ := h; ⟨a, e, k.ext hx9⟩)
   | 9, h => exact h
   | 10, h => exact h
   | 11, ⟨b, e, h1, h2, h3⟩ => exact ⟨b, e, h1, fun hs => (h2 hs).ext hx9, fun hs => (fun h => (let ⟨a, b, k, o1, o2⟩ := h; ⟨a, b, k.ext hx9, o1.ext hx9, o2.ext hx9⟩)) (h3 hs)⟩
   | 12, ⟨b, e, h1, h2, h3⟩ => exact ⟨b, e, h1, fun hs => (h2 hs).ext hx9, fun hs => (fun h => (let ⟨a, k, o1⟩ := h; ⟨a, k.ext hx9, o1.ext hx9⟩)) (h3 hs)⟩
   | 13, ⟨b, e, h1, h2, h3⟩ => exact ⟨b, e, h1, fun hs => (h2 hs).ext hx9, fun hs => (fun h => h.ext hx9) (h3 hs)⟩
   | 14, h => exact h
   | 15, h => exact h
   | 16, h => exact h
  ·intro iI oO hi ho gF w9 S9 hx9 hdep hag
   have s9 := hx9.st
   have n9 : Now w9 := trivial
   have r9 := Ext.refl w9
   have z9 := hx9.size
   rcases iI with _|_|_|_|_|_|_|_|_|_|_|_|_|_|_|_|_|iI
   have e := Option.some.inj ho
   subst e
   have a1 := hag.at 1 KR
   simp only [S5, ↓reduceIte, Nat.reduceEqDiff, initF, *] at a1
   clear hag hdep ho
   refine ⟨fun _ => ?_, fun a9 pa da hal => by simp [alL] at hal⟩
   refine relStep_off rfl ?_
   rotate_left
   have e := Option.some.inj ho
   subst e
   have a2 := hag.at 2 KR
   simp only [S5, ↓reduceIte, Nat.reduceEqDiff, initF, *] at a2
   clear hag hdep ho
   refine ⟨fun _ => ?_, fun a9 pa da hal => by simp [alL] at hal⟩
   refine relStep_off rfl ?_
   rotate_left
   have e := Option.some.inj ho
   subst e
   have a4 := hag.at 4 KR
   simp only [S5, ↓reduceIte, Nat.reduceEqDiff, initF, *] at a4
   clear hag hdep ho
   refine ⟨fun _ => ?_, fun a9 pa da hal => by simp [alL] at hal⟩
   refine relStep_off rfl ?_
   rotate_left
   have e := Option.some.inj ho
   subst e
   have a5 := hag.at 5 KR
   simp only [S5, ↓reduceIte, Nat.reduceEqDiff, initF, *] at a5
   clear hag hdep ho
   refine ⟨fun _ => ?_, fun a9 pa da hal => by simp [alL] at hal⟩
   refine relStep_off rfl ?_
   rotate_left
   have e := Option.some.inj ho
   subst e
   clear hag hdep ho
   refine ⟨fun _ => ?_, fun a9 pa da hal => by simp [alL] at hal⟩
   refine relStep_off rfl ?_
   rotate_left
   have e := Option.some.inj ho
   subst e
   have d0 : (gF 34) = .agg (siteC u siteEx26).toArray := hdep ⟨0, .data⟩ (by simp) rfl _ _ rfl rfl
   have d1 : (gF 35) = .agg #[wv] := hdep ⟨1, .data⟩ (by simp) rfl _ _ rfl rfl
   have d2 : (gF 36) = .agg #[hA, rA] := hdep ⟨2, .data⟩ (by simp) rfl _ _ rfl rfl
   have d3 : (gF 37) = .agg #[aA] := hdep ⟨3, .data⟩ (by simp) rfl _ _ rfl rfl
   have d4 : (gF 38) = requestV ⟨7, 20, ⟨1, 1, 0, 0⟩⟩ := hdep ⟨4, .data⟩ (by simp) rfl _ _ rfl rfl
   clear hag hdep ho
   refine ⟨fun _ => ?_, fun a9 pa da hal => by simp [alL] at hal⟩
   refine relStep_off rfl ?_
   rotate_left
   have e := Option.some.inj ho
   subst e
   have d5 : HandR wd.heap.size (gF 39) w9 ⟨worldEx1, [⟨7, 1⟩], ⟨7, 1⟩, 0⟩ := hdep ⟨5, .data⟩ (by simp) rfl _ _ rfl rfl
   clear hag hdep ho
   refine ⟨fun _ => ?_, fun a9 pa da hal => by simp [alL] at hal⟩
   refine relStep_off rfl ?_
   rotate_left
   have e := Option.some.inj ho
   subst e
   have d6 : HandR wd.heap.size (gF 33) w9 ⟨worldEx1, [⟨7, 1⟩], ⟨7, 1⟩, 0⟩ := hdep ⟨6, .data⟩ (by simp) rfl _ _ rfl rfl
   obtain ⟨v6, a6, e6, o6, oa6⟩ := d6
   clear hag hdep ho
   refine ⟨fun _ => ?_, fun a9 pa da hal => by simp [alL] at hal⟩
   refine relStep_off rfl ?_
   rotate_left
   have e := Option.some.inj ho
   subst e
   have d6 : HandR wd.heap.size (gF 33) w9 ⟨worldEx1, [⟨7, 1⟩], ⟨7, 1⟩, 0⟩ := hdep ⟨6, .data⟩ (by simp) rfl _ _ rfl rfl
   obtain ⟨v6, a6, e6, o6, oa6⟩ := d6
   clear hag hdep ho
   refine ⟨fun _ => ?_, fun a9 pa da hal => by simp [alL] at hal⟩
   refine relStep_off rfl ?_
   rotate_left
   have e := Option.some.inj ho
   subst e
   have d6 : HandR wd.heap.size (gF 33) w9 ⟨worldEx1, [⟨7, 1⟩], ⟨7, 1⟩, 0⟩ := hdep ⟨6, .data⟩ (by simp) rfl _ _ rfl rfl
   obtain ⟨v6, a6, e6, o6, oa6⟩ := d6
   clear hag hdep ho
   refine ⟨fun _ => ?_, fun a9 pa da hal => by simp [alL] at hal⟩
   refine relStep_off rfl ?_
   rotate_left
   have e := Option.some.inj ho
   subst e
   have d6 : HandR wd.heap.size (gF 33) w9 ⟨worldEx1, [⟨7, 1⟩], ⟨7, 1⟩, 0⟩ := hdep ⟨6, .data⟩ (by simp) rfl _ _ rfl rfl
   obtain ⟨v6, a6, e6, o6, oa6⟩ := d6
   clear hag hdep ho
   refine ⟨fun _ => ?_, fun a9 pa da hal => by simp [alL] at hal⟩
   refine relStep_off rfl ?_
   rotate_left
   have e := Option.some.inj ho
   subst e
   clear hag hdep ho
   refine ⟨fun _ => ?_, fun a9 pa da hal => by simp [alL] at hal⟩
   refine relStep_off rfl ?_
   rotate_left
   have e := Option.some.inj ho
   subst e
   clear hag hdep ho
   refine ⟨fun _ => ?_, fun a9 pa da hal => by simp [alL] at hal⟩
   refine relStep_off rfl ?_
   rotate_left
   have e := Option.some.inj ho
   subst e
   clear hag hdep ho
   refine ⟨fun _ => ?_, fun a9 pa da hal => by simp [alL] at hal⟩
   refine relStep_off rfl ?_
   rotate_left
   have e := Option.some.inj ho
   subst e
   have d11 : ∃ b, (gF 8) = .pointer (some ⟨b, 0, none⟩) ∧ wd.heap.size ≤ b ∧ ((S9 11) = false → Blk w9 b 36 [.slice none 0 0, .slice none 0 0]) ∧ ((S9 11) = true → ∃ h r, Blk w9 b 36 [h, r] ∧ OwnH w9 wd.heap.size h worldEx1.hosts ∧ OwnP w9 wd.heap.size r worldEx1.replicas) := hdep ⟨11, .data⟩ (by simp) rfl _ _ rfl rfl
   obtain ⟨b11, e11, q11, hz11, _⟩ := d11
   have d7 : OwnW wd.heap.size (gF 40) w9 worldEx1 := hdep ⟨7, .data⟩ (by simp) rfl _ _ rfl rfl
   obtain ⟨h7, r7, e7, oh7, or7⟩ := d7
   have H7 := oh7.one
   have R7 := or7.one
   clear hag hdep ho
   refine ⟨fun h => by simp [alL] at h, fun a9 pa da hal hS9 hpa hda => ?_⟩
   obtain rfl : 11 = a9 := by simpa [alL] using hal
   obtain rfl := Option.some.inj hpa
   obtain rfl := Option.some.inj hda
   have hz := hz11 hS9
   clear hal hpa hda hz11
   refine relStep_off rfl ?_
   rotate_left
   have e := Option.some.inj ho
   subst e
   have d12 : ∃ b, (gF 9) = .pointer (some ⟨b, 0, none⟩) ∧ wd.heap.size ≤ b ∧ ((S9 12) = false → Blk w9 b 39 [.slice none 0 0]) ∧ ((S9 12) = true → ∃ a, Blk w9 b 39 [a] ∧ OwnA w9 wd.heap.size a [⟨7, 1⟩]) := hdep ⟨12, .data⟩ (by simp) rfl _ _ rfl rfl
   obtain ⟨b12, e12, q12, hz12, _⟩ := d12
   have d8 : ∃ a, (gF 41) = .agg #[a] ∧ OwnA w9 wd.heap.size a [⟨7, 1⟩] := hdep ⟨8, .data⟩ (by simp) rfl _ _ rfl rfl
   obtain ⟨a8, e8, oa8⟩ := d8
   have A8 := oa8.one
   clear hag hdep ho
   refine ⟨fun h => by simp [alL] at h, fun a9 pa da hal hS9 hpa hda => ?_⟩
   obtain rfl : 12 = a9 := by simpa [alL] using hal
   obtain rfl := Option.some.inj hpa
   obtain rfl := Option.some.inj hda
   have hz := hz12 hS9
   clear hal hpa hda hz12
   refine relStep_off rfl ?_
   rotate_left
   have e := Option.some.inj ho
   subst e
   have d13 : ∃ b, (gF 10) = .pointer (some ⟨b, 0, none⟩) ∧ wd.heap.size ≤ b ∧ ((S9 13) = false → Blk w9 b 50 [intV 0, .int .u8 0]) ∧ ((S9 13) = true → Blk w9 b 50 [intV 7, .int .u8 1]) := hdep ⟨13, .data⟩ (by simp) rfl _ _ rfl rfl
   obtain ⟨b13, e13, q13, hz13, _⟩ := d13
   have d9 : (gF 42) = replyV ⟨7, 1⟩ := hdep ⟨9, .data⟩ (by simp) rfl _ _ rfl rfl
   clear hag hdep ho
   refine ⟨fun h => by simp [alL] at h, fun a9 pa da hal hS9 hpa hda => ?_⟩
   obtain rfl : 13 = a9 := by simpa [alL] using hal
   obtain rfl := Option.some.inj hpa
   obtain rfl := Option.some.inj hda
   have hz := hz13 hS9
   clear hal hpa hda hz13
   refine relStep_off rfl ?_
   rotate_left
   ·omega
   all_goals (repeat' first
  | ((with_reducible refine at_row ?_); refine row1_a fun _ _ _ _ _ _ _ => ?_)
  | with_reducible first | (first | apply alloc_k | apply row_k); intro _ _ _ _ _ _ | (first | apply fork | apply forkp) <;> intro _ | refine forke (fun _ => ?_) fun _ _ => ?_ | refine tail_k fun _ _ _ => ?_ | refine ext_k fun _ _ _ => ?_ | refine need_a ?_ | refine st_agg KR rfl ON fun _ _ _ _ => ?_ | refine wpd_q_a ?_
  | ((with_reducible refine at_f 26 ?_); refine ret_k (law26starts (id := 7) (lease := 20) (service := 0) (host := 1)) fun _ _ _ => ?_)
  | simp (maxDischargeDepth := 3) only [↓X, ↓Y, ↓Q, S1, ↓reduceIte, Nat.reduceEqDiff, Nat.reduceAdd, Int.reduceLT, Int.reduceLE, Int.reduceNeg, Int.reduceBEq, Int.reduceBNe, Int.reduceEq, Nat.reduceLeDiff, Nat.reduceMul, Nat.reduceLT, *, siteC]
  | simp (singlePass := true) (maxDischargeDepth := 99) only [*, S2, Nat.reduceLT, siteC])
   all_goals first
    | (refine hand26 ⟨7, 20, ⟨1, 1, 0, 0⟩⟩ n9 hsl (hS _ FR) (hW _ FR) (⟨(HA.1 _ FR).slN (f := stateC), (RA.1 _ FR).slN (f := replC)⟩) z9 ((AA.1 _ FR).slN (f := replyC)) ex26_two FR FR (Nat.le_refl _) (Nat.le_refl _) (by decide))
    | (exact d5)
    | (exact o6)
    | (exact ⟨_, rfl, oa6⟩)
    | (rename_i b10 w10 n10 k10 s10 q10; exact ⟨_, rfl, FR, fun _ => k10.2.1 _ k10.2.2.1, fun h => absurd h (by decide)⟩)
    | (
      refine stT_agg (w0 := w9) (vs := [h7, r7]) hz rfl KR rfl (by simp [H7, R7]) fun w10 hb10 hc => ⟨b11, hc, q11, ⟨b11, (by first | exact e11 | rfl), q11, fun h => absurd h (by decide), fun _ => ⟨h7, r7, hb10, oh7.fra hz hc, or7.fra hz hc⟩⟩, ?_⟩
      intro iI s v hne hR
      match iI, hR with
      | 0, h | 1, h | 2, h | 3, h | 4, h | 9, h | 10, h | 14, h | 15, h | 16, h => exact h
      | 5, h => exact HandR.fr h hz hc
      | 6, h => exact HandR.fr h hz hc
      | 7, h => exact OwnW.fr h hz hc
      | 8, h => exact (let ⟨a, e, k⟩ := h; ⟨a, e, k.fra hz hc⟩)
      | 11, _ => exact absurd rfl hne
      | 12, ⟨b, e, h1, h2, h3⟩ => exact ⟨b, e, h1, fun hs => Blk.fr (h2 hs) hz hc (by first | exact .inl (by decide) | exact .inr (by simp [natV, intV])), fun hs => (fun h => (let ⟨a, k, o1⟩ := h; ⟨a, k.fra hz hc, o1.fra hz hc⟩)) (h3 hs)⟩
      | 13, ⟨b, e, h1, h2, h3⟩ => exact ⟨b, e, h1, fun hs => Blk.fr (h2 hs) hz hc (by first | exact .inl (by decide) | exact .inr (by simp [natV, intV])), fun hs => (fun h => h.fra hz hc) (h3 hs)⟩)
    | (
      refine stT_agg (w0 := w9) (vs := [a8]) hz rfl KR rfl (by simp [A8]) fun w10 hb10 hc => ⟨b12, hc, q12, ⟨b12, (by first | exact e12 | rfl), q12, fun h => absurd h (by decide), fun _ => ⟨a8, hb10, oa8.fra hz hc⟩⟩, ?_⟩
      intro iI s v hne hR
      match iI, hR with
      | 0, h | 1, h | 2, h | 3, h | 4, h | 9, h | 10, h | 14, h | 15, h | 16, h => exact h
      | 5, h => exact HandR.fr h hz hc
      | 6, h => exact HandR.fr h hz hc
      | 7, h => exact OwnW.fr h hz hc
      | 8, h => exact (let ⟨a, e, k⟩ := h; ⟨a, e, k.fra hz hc⟩)
      | 11, ⟨b, e, h1, h2, h3⟩ => exact ⟨b, e, h1, fun hs => Blk.fr (h2 hs) hz hc (by first | exact .inl (by decide) | exact .inr (by simp [natV, intV])), fun hs => (fun h => (let ⟨a, b, k, o1, o2⟩ := h; ⟨a, b, k.fra hz hc, o1.fra hz hc, o2.fra hz hc⟩)) (h3 hs)⟩
      | 12, _ => exact absurd rfl hne
      | 13, ⟨b, e, h1, h2, h3⟩ => exact ⟨b, e, h1, fun hs => Blk.fr (h2 hs) hz hc (by first | exact .inl (by decide) | exact .inr (by simp [natV, intV])), fun hs => (fun h => h.fra hz hc) (h3 hs)⟩)
    | (
      refine stT_agg (w0 := w9) (vs := [intV 7, .int .u8 1]) hz rfl KR rfl (by simp [intV, one_int]) fun w10 hb10 hc => ⟨b13, hc, q13, ⟨b13, (by first | exact e13 | rfl), q13, fun h => absurd h (by decide), fun _ => hb10⟩, ?_⟩
      intro iI s v hne hR
      match iI, hR with
      | 0, h | 1, h | 2, h | 3, h | 4, h | 9, h | 10, h | 14, h | 15, h | 16, h => exact h
      | 5, h => exact HandR.fr h hz hc
      | 6, h => exact HandR.fr h hz hc
      | 7, h => exact OwnW.fr h hz hc
      | 8, h => exact (let ⟨a, e, k⟩ := h; ⟨a, e, k.fra hz hc⟩)
      | 11, ⟨b, e, h1, h2, h3⟩ => exact ⟨b, e, h1, fun hs => Blk.fr (h2 hs) hz hc (by first | exact .inl (by decide) | exact .inr (by simp [natV, intV])), fun hs => (fun h => (let ⟨a, b, k, o1, o2⟩ := h; ⟨a, b, k.fra hz hc, o1.fra hz hc, o2.fra hz hc⟩)) (h3 hs)⟩
      | 12, ⟨b, e, h1, h2, h3⟩ => exact ⟨b, e, h1, fun hs => Blk.fr (h2 hs) hz hc (by first | exact .inl (by decide) | exact .inr (by simp [natV, intV])), fun hs => (fun h => (let ⟨a, k, o1⟩ := h; ⟨a, k.fra hz hc, o1.fra hz hc⟩)) (h3 hs)⟩
      | 13, _ => exact absurd rfl hne)
  ·intro g9 w9 hx9 hR hag
   have s9 := hx9.st
   have n9 : Now w9 := trivial
   have r9 := Ext.refl w9
   have z9 := hx9.size
   have d10 : (g9 43) = intV 0 := hR 10 _ _ (by decide) rfl rfl
   have d11 : ∃ b, (g9 8) = .pointer (some ⟨b, 0, none⟩) ∧ wd.heap.size ≤ b ∧ (true = false → Blk w9 b 36 [.slice none 0 0, .slice none 0 0]) ∧ (true = true → ∃ h r, Blk w9 b 36 [h, r] ∧ OwnH w9 wd.heap.size h worldEx1.hosts ∧ OwnP w9 wd.heap.size r worldEx1.replicas) := hR 11 _ _ (by decide) rfl rfl
   obtain ⟨b11, e11, q11, _, f11⟩ := d11
   replace f11 := f11 rfl
   have nw11 := Nw.of q11
   obtain ⟨hB, rB, kwB, ohB, orB⟩ := f11
   have KWB := kwB.bk
   have HB := ohB.o
   have RB := orB.o
   clear kwB ohB orB
   have d12 : ∃ b, (g9 9) = .pointer (some ⟨b, 0, none⟩) ∧ wd.heap.size ≤ b ∧ (true = false → Blk w9 b 39 [.slice none 0 0]) ∧ (true = true → ∃ a, Blk w9 b 39 [a] ∧ OwnA w9 wd.heap.size a [⟨7, 1⟩]) := hR 12 _ _ (by decide) rfl rfl
   obtain ⟨b12, e12, q12, _, f12⟩ := d12
   replace f12 := f12 rfl
   have nw12 := Nw.of q12
   obtain ⟨aB, kaB, oaB⟩ := f12
   have KAB := kaB.bk
   have AB := oaB.o
   clear kaB oaB
   have d13 : ∃ b, (g9 10) = .pointer (some ⟨b, 0, none⟩) ∧ wd.heap.size ≤ b ∧ (true = false → Blk w9 b 50 [intV 0, .int .u8 0]) ∧ (true = true → Blk w9 b 50 [intV 7, .int .u8 1]) := hR 13 _ _ (by decide) rfl rfl
   obtain ⟨b13, e13, q13, _, f13⟩ := d13
   replace f13 := f13 rfl
   have nw13 := Nw.of q13
   have KPB := f13.bk
   have a1 := hag.at 1 KR
   have a2 := hag.at 2 KR
   have a3 := hag.at 3 KR
   have a4 := hag.at 4 KR
   have a5 := hag.at 5 KR
   have a6 := hag.at 6 KR
   have a7 := hag.at 7 KR
   simp only [S5, ↓reduceIte, Nat.reduceEqDiff, initF, *] at a1 a2 a3 a4 a5 a6 a7
   clear hag hR
   simp only [List.drop_succ_cons, List.drop_zero]
   (repeat' first
  | ((with_reducible refine wpd_at 4 ?_); refine wpd_hold ?_)
  | ((with_reducible refine at_row ?_); refine row1_a fun _ _ _ _ _ _ _ => ?_)
  | with_reducible first | (first | apply alloc_k | apply row_k); intro _ _ _ _ _ _ | (first | apply fork | apply forkp) <;> intro _ | refine forke (fun _ => ?_) fun _ _ => ?_ | refine tail_k fun _ _ _ => ?_ | refine ext_k fun _ _ _ => ?_ | refine need_a ?_ | refine st_agg KR rfl ON fun _ _ _ _ => ?_ | refine wpd_q_a ?_
  | simp (maxDischargeDepth := 3) only [↓X, ↓Y, ↓Q, S1, ↓reduceIte, Nat.reduceEqDiff, Nat.reduceAdd, Int.reduceLT, Int.reduceLE, Int.reduceNeg, Int.reduceBEq, Int.reduceBNe, Int.reduceEq, Nat.reduceLeDiff, Nat.reduceMul, Nat.reduceLT, *, siteC]
  | simp (singlePass := true) (maxDischargeDepth := 99) only [*, S2, Nat.reduceLT, siteC])
   obtain ⟨we, hw9⟩ : ∃ x, x = w9 := ⟨_, rfl⟩
   subst hw9
   rename_i q1 q2 q3
   clear q1 q2 q3
   unfold wpdH
   refine wpd_relS 17 [(14, 11), (15, 12), (16, 13)] (fun iI s v w9 => match iI with
    | 0 => v = .agg (siteC u siteEx26).toArray
    | 1 => v = .agg #[wv]
    | 2 => v = .agg #[hv, rv]
    | 3 => v = .agg #[.slice none 0 0]
    | 4 => v = requestV ⟨7, 20, ⟨1, 1, 0, 0⟩⟩
    | 5 => HandR we.heap.size v w9 ⟨worldEx, [⟨7, 2⟩], ⟨7, 2⟩, 0⟩
    | 6 => HandR we.heap.size v w9 ⟨worldEx, [⟨7, 2⟩], ⟨7, 2⟩, 0⟩
    | 7 => OwnW we.heap.size v w9 worldEx
    | 8 => ∃ a, v = .agg #[a] ∧ OwnA w9 we.heap.size a [⟨7, 2⟩]
    | 9 => v = replyV ⟨7, 2⟩
    | 10 => v = intV 0
    | 11 => ∃ b, v = .pointer (some ⟨b, 0, none⟩) ∧ we.heap.size ≤ b ∧ (s = false → Blk w9 b 36 [.slice none 0 0, .slice none 0 0]) ∧ (s = true → ∃ h r, Blk w9 b 36 [h, r] ∧ OwnH w9 we.heap.size h worldEx.hosts ∧ OwnP w9 we.heap.size r worldEx.replicas)
    | 12 => ∃ b, v = .pointer (some ⟨b, 0, none⟩) ∧ we.heap.size ≤ b ∧ (s = false → Blk w9 b 39 [.slice none 0 0]) ∧ (s = true → ∃ a, Blk w9 b 39 [a] ∧ OwnA w9 we.heap.size a [⟨7, 2⟩])
    | 13 => ∃ b, v = .pointer (some ⟨b, 0, none⟩) ∧ we.heap.size ≤ b ∧ (s = false → Blk w9 b 50 [intV 0, .int .u8 0]) ∧ (s = true → Blk w9 b 50 [intV 7, .int .u8 2])
    | 14 => True
    | 15 => True
    | 16 => True
    | _ => False) KR KR KR KR ?_ ?_ ?_
   ·intro iI s v w1 w2 hR hx9
    match iI, hR with
    | 0, h => exact h
    | 1, h => exact h
    | 2, h => exact h
    | 3, h => exact h
    | 4, h => exact h
    | 5, h => exact HandR.ext h hx9
    | 6, h => exact HandR.ext h hx9
    | 7, h => exact OwnW.ext h hx9
    | 8, h => exact (let ⟨a, e, k⟩ := h; ⟨a, e, k.ext hx9⟩)
    | 9, h => exact h
    | 10, h => exact h
    | 11, ⟨b, e, h1, h2, h3⟩ => exact ⟨b, e, h1, fun hs => (h2 hs).ext hx9, fun hs => (fun h => (let ⟨a, b, k, o1, o2⟩ := h; ⟨a, b, k.ext hx9, o1.ext hx9, o2.ext hx9⟩)) (h3 hs)⟩
    | 12, ⟨b, e, h1, h2, h3⟩ => exact ⟨b, e, h1, fun hs => (h2 hs).ext hx9, fun hs => (fun h => (let ⟨a, k, o1⟩ := h; ⟨a, k.ext hx9, o1.ext hx9⟩)) (h3 hs)⟩
    | 13, ⟨b, e, h1, h2, h3⟩ => exact ⟨b, e, h1, fun hs => (h2 hs).ext hx9, fun hs => (fun h => h.ext hx9) (h3 hs)⟩
    | 14, h => exact h
    | 15, h => exact h
    | 16, h => exact h
   ·intro iI oO hi ho gF w9 S9 hx9 hdep hag
    have s9 := hx9.st
    have n9 : Now w9 := trivial
    have r9 := Ext.refl w9
    have z9 := hx9.size
    rcases iI with _|_|_|_|_|_|_|_|_|_|_|_|_|_|_|_|_|iI
    have e := Option.some.inj ho
    subst e
    have a1 := hag.at 1 KR
    simp only [S5, ↓reduceIte, Nat.reduceEqDiff, initF, *] at a1
    clear hag hdep ho
    refine ⟨fun _ => ?_, fun a9 pa da hal => by simp [alL] at hal⟩
    refine relStep_off rfl ?_
    rotate_left
    have e := Option.some.inj ho
    subst e
    have a2 := hag.at 2 KR
    simp only [S5, ↓reduceIte, Nat.reduceEqDiff, initF, *] at a2
    clear hag hdep ho
    refine ⟨fun _ => ?_, fun a9 pa da hal => by simp [alL] at hal⟩
    refine relStep_off rfl ?_
    rotate_left
    have e := Option.some.inj ho
    subst e
    have a3 := hag.at 3 KR
    simp only [S5, ↓reduceIte, Nat.reduceEqDiff, initF, *] at a3
    clear hag hdep ho
    refine ⟨fun _ => ?_, fun a9 pa da hal => by simp [alL] at hal⟩
    refine relStep_off rfl ?_
    rotate_left
    have e := Option.some.inj ho
    subst e
    clear hag hdep ho
    refine ⟨fun _ => ?_, fun a9 pa da hal => by simp [alL] at hal⟩
    refine relStep_off rfl ?_
    rotate_left
    have e := Option.some.inj ho
    subst e
    clear hag hdep ho
    refine ⟨fun _ => ?_, fun a9 pa da hal => by simp [alL] at hal⟩
    refine relStep_off rfl ?_
    rotate_left
    have e := Option.some.inj ho
    subst e
    have d0 : (gF 45) = .agg (siteC u siteEx26).toArray := hdep ⟨0, .data⟩ (by simp) rfl _ _ rfl rfl
    have d1 : (gF 46) = .agg #[wv] := hdep ⟨1, .data⟩ (by simp) rfl _ _ rfl rfl
    have d2 : (gF 47) = .agg #[hv, rv] := hdep ⟨2, .data⟩ (by simp) rfl _ _ rfl rfl
    have d3 : (gF 48) = .agg #[.slice none 0 0] := hdep ⟨3, .data⟩ (by simp) rfl _ _ rfl rfl
    have d4 : (gF 49) = requestV ⟨7, 20, ⟨1, 1, 0, 0⟩⟩ := hdep ⟨4, .data⟩ (by simp) rfl _ _ rfl rfl
    clear hag hdep ho
    refine ⟨fun _ => ?_, fun a9 pa da hal => by simp [alL] at hal⟩
    refine relStep_off rfl ?_
    rotate_left
    have e := Option.some.inj ho
    subst e
    have d5 : HandR we.heap.size (gF 50) w9 ⟨worldEx, [⟨7, 2⟩], ⟨7, 2⟩, 0⟩ := hdep ⟨5, .data⟩ (by simp) rfl _ _ rfl rfl
    clear hag hdep ho
    refine ⟨fun _ => ?_, fun a9 pa da hal => by simp [alL] at hal⟩
    refine relStep_off rfl ?_
    rotate_left
    have e := Option.some.inj ho
    subst e
    have d6 : HandR we.heap.size (gF 44) w9 ⟨worldEx, [⟨7, 2⟩], ⟨7, 2⟩, 0⟩ := hdep ⟨6, .data⟩ (by simp) rfl _ _ rfl rfl
    obtain ⟨v6, a6, e6, o6, oa6⟩ := d6
    clear hag hdep ho
    refine ⟨fun _ => ?_, fun a9 pa da hal => by simp [alL] at hal⟩
    refine relStep_off rfl ?_
    rotate_left
    have e := Option.some.inj ho
    subst e
    have d6 : HandR we.heap.size (gF 44) w9 ⟨worldEx, [⟨7, 2⟩], ⟨7, 2⟩, 0⟩ := hdep ⟨6, .data⟩ (by simp) rfl _ _ rfl rfl
    obtain ⟨v6, a6, e6, o6, oa6⟩ := d6
    clear hag hdep ho
    refine ⟨fun _ => ?_, fun a9 pa da hal => by simp [alL] at hal⟩
    refine relStep_off rfl ?_
    rotate_left
    have e := Option.some.inj ho
    subst e
    have d6 : HandR we.heap.size (gF 44) w9 ⟨worldEx, [⟨7, 2⟩], ⟨7, 2⟩, 0⟩ := hdep ⟨6, .data⟩ (by simp) rfl _ _ rfl rfl
    obtain ⟨v6, a6, e6, o6, oa6⟩ := d6
    clear hag hdep ho
    refine ⟨fun _ => ?_, fun a9 pa da hal => by simp [alL] at hal⟩
    refine relStep_off rfl ?_
    rotate_left
    have e := Option.some.inj ho
    subst e
    have d6 : HandR we.heap.size (gF 44) w9 ⟨worldEx, [⟨7, 2⟩], ⟨7, 2⟩, 0⟩ := hdep ⟨6, .data⟩ (by simp) rfl _ _ rfl rfl
    obtain ⟨v6, a6, e6, o6, oa6⟩ := d6
    clear hag hdep ho
    refine ⟨fun _ => ?_, fun a9 pa da hal => by simp [alL] at hal⟩
    refine relStep_off rfl ?_
    rotate_left
    have e := Option.some.inj ho
    subst e
    clear hag hdep ho
    refine ⟨fun _ => ?_, fun a9 pa da hal => by simp [alL] at hal⟩
    refine relStep_off rfl ?_
    rotate_left
    have e := Option.some.inj ho
    subst e
    clear hag hdep ho
    refine ⟨fun _ => ?_, fun a9 pa da hal => by simp [alL] at hal⟩
    refine relStep_off rfl ?_
    rotate_left
    have e := Option.some.inj ho
    subst e
    clear hag hdep ho
    refine ⟨fun _ => ?_, fun a9 pa da hal => by simp [alL] at hal⟩
    refine relStep_off rfl ?_
    rotate_left
    have e := Option.some.inj ho
    subst e
    have d11 : ∃ b, (gF 12) = .pointer (some ⟨b, 0, none⟩) ∧ we.heap.size ≤ b ∧ ((S9 11) = false → Blk w9 b 36 [.slice none 0 0, .slice none 0 0]) ∧ ((S9 11) = true → ∃ h r, Blk w9 b 36 [h, r] ∧ OwnH w9 we.heap.size h worldEx.hosts ∧ OwnP w9 we.heap.size r worldEx.replicas) := hdep ⟨11, .data⟩ (by simp) rfl _ _ rfl rfl
    obtain ⟨b11, e11, q11, hz11, _⟩ := d11
    have d7 : OwnW we.heap.size (gF 51) w9 worldEx := hdep ⟨7, .data⟩ (by simp) rfl _ _ rfl rfl
    obtain ⟨h7, r7, e7, oh7, or7⟩ := d7
    have H7 := oh7.one
    have R7 := or7.one
    clear hag hdep ho
    refine ⟨fun h => by simp [alL] at h, fun a9 pa da hal hS9 hpa hda => ?_⟩
    obtain rfl : 11 = a9 := by simpa [alL] using hal
    obtain rfl := Option.some.inj hpa
    obtain rfl := Option.some.inj hda
    have hz := hz11 hS9
    clear hal hpa hda hz11
    refine relStep_off rfl ?_
    rotate_left
    have e := Option.some.inj ho
    subst e
    have d12 : ∃ b, (gF 13) = .pointer (some ⟨b, 0, none⟩) ∧ we.heap.size ≤ b ∧ ((S9 12) = false → Blk w9 b 39 [.slice none 0 0]) ∧ ((S9 12) = true → ∃ a, Blk w9 b 39 [a] ∧ OwnA w9 we.heap.size a [⟨7, 2⟩]) := hdep ⟨12, .data⟩ (by simp) rfl _ _ rfl rfl
    obtain ⟨b12, e12, q12, hz12, _⟩ := d12
    have d8 : ∃ a, (gF 52) = .agg #[a] ∧ OwnA w9 we.heap.size a [⟨7, 2⟩] := hdep ⟨8, .data⟩ (by simp) rfl _ _ rfl rfl
    obtain ⟨a8, e8, oa8⟩ := d8
    have A8 := oa8.one
    clear hag hdep ho
    refine ⟨fun h => by simp [alL] at h, fun a9 pa da hal hS9 hpa hda => ?_⟩
    obtain rfl : 12 = a9 := by simpa [alL] using hal
    obtain rfl := Option.some.inj hpa
    obtain rfl := Option.some.inj hda
    have hz := hz12 hS9
    clear hal hpa hda hz12
    refine relStep_off rfl ?_
    rotate_left
    have e := Option.some.inj ho
    subst e
    have d13 : ∃ b, (gF 14) = .pointer (some ⟨b, 0, none⟩) ∧ we.heap.size ≤ b ∧ ((S9 13) = false → Blk w9 b 50 [intV 0, .int .u8 0]) ∧ ((S9 13) = true → Blk w9 b 50 [intV 7, .int .u8 2]) := hdep ⟨13, .data⟩ (by simp) rfl _ _ rfl rfl
    obtain ⟨b13, e13, q13, hz13, _⟩ := d13
    have d9 : (gF 53) = replyV ⟨7, 2⟩ := hdep ⟨9, .data⟩ (by simp) rfl _ _ rfl rfl
    clear hag hdep ho
    refine ⟨fun h => by simp [alL] at h, fun a9 pa da hal hS9 hpa hda => ?_⟩
    obtain rfl : 13 = a9 := by simpa [alL] using hal
    obtain rfl := Option.some.inj hpa
    obtain rfl := Option.some.inj hda
    have hz := hz13 hS9
    clear hal hpa hda hz13
    refine relStep_off rfl ?_
    rotate_left
    ·omega
    all_goals (repeat' first
  | ((with_reducible refine at_row ?_); refine row1_a fun _ _ _ _ _ _ _ => ?_)
  | with_reducible first | (first | apply alloc_k | apply row_k); intro _ _ _ _ _ _ | (first | apply fork | apply forkp) <;> intro _ | refine forke (fun _ => ?_) fun _ _ => ?_ | refine tail_k fun _ _ _ => ?_ | refine ext_k fun _ _ _ => ?_ | refine need_a ?_ | refine st_agg KR rfl ON fun _ _ _ _ => ?_ | refine wpd_q_a ?_
  | ((with_reducible refine at_f 26 ?_); refine ret_k (law26starts (id := 7) (lease := 20) (service := 0) (host := 1)) fun _ _ _ => ?_)
  | simp (maxDischargeDepth := 3) only [↓X, ↓Y, ↓Q, S1, ↓reduceIte, Nat.reduceEqDiff, Nat.reduceAdd, Int.reduceLT, Int.reduceLE, Int.reduceNeg, Int.reduceBEq, Int.reduceBNe, Int.reduceEq, Nat.reduceLeDiff, Nat.reduceMul, Nat.reduceLT, *, siteC]
  | simp (singlePass := true) (maxDischargeDepth := 99) only [*, S2, Nat.reduceLT, siteC])
    all_goals first
     | (refine hand26 ⟨7, 20, ⟨1, 1, 0, 0⟩⟩ n9 hsl (hS _ FR) (hW _ FR) (hX _ FR) z9 (Sl.nil _ 0 _ _) ex26_three FR FR FR (Nat.zero_le _) (by decide))
     | (exact d5)
     | (exact o6)
     | (exact ⟨_, rfl, oa6⟩)
     | (rename_i b10 w10 n10 k10 s10 q10; exact ⟨_, rfl, FR, fun _ => k10.2.1 _ k10.2.2.1, fun h => absurd h (by decide)⟩)
     | (
       refine stT_agg (w0 := w9) (vs := [h7, r7]) hz rfl KR rfl (by simp [H7, R7]) fun w10 hb10 hc => ⟨b11, hc, q11, ⟨b11, (by first | exact e11 | rfl), q11, fun h => absurd h (by decide), fun _ => ⟨h7, r7, hb10, oh7.fra hz hc, or7.fra hz hc⟩⟩, ?_⟩
       intro iI s v hne hR
       match iI, hR with
       | 0, h | 1, h | 2, h | 3, h | 4, h | 9, h | 10, h | 14, h | 15, h | 16, h => exact h
       | 5, h => exact HandR.fr h hz hc
       | 6, h => exact HandR.fr h hz hc
       | 7, h => exact OwnW.fr h hz hc
       | 8, h => exact (let ⟨a, e, k⟩ := h; ⟨a, e, k.fra hz hc⟩)
       | 11, _ => exact absurd rfl hne
       | 12, ⟨b, e, h1, h2, h3⟩ => exact ⟨b, e, h1, fun hs => Blk.fr (h2 hs) hz hc (by first | exact .inl (by decide) | exact .inr (by simp [natV, intV])), fun hs => (fun h => (let ⟨a, k, o1⟩ := h; ⟨a, k.fra hz hc, o1.fra hz hc⟩)) (h3 hs)⟩
       | 13, ⟨b, e, h1, h2, h3⟩ => exact ⟨b, e, h1, fun hs => Blk.fr (h2 hs) hz hc (by first | exact .inl (by decide) | exact .inr (by simp [natV, intV])), fun hs => (fun h => h.fra hz hc) (h3 hs)⟩)
     | (
       refine stT_agg (w0 := w9) (vs := [a8]) hz rfl KR rfl (by simp [A8]) fun w10 hb10 hc => ⟨b12, hc, q12, ⟨b12, (by first | exact e12 | rfl), q12, fun h => absurd h (by decide), fun _ => ⟨a8, hb10, oa8.fra hz hc⟩⟩, ?_⟩
       intro iI s v hne hR
       match iI, hR with
       | 0, h | 1, h | 2, h | 3, h | 4, h | 9, h | 10, h | 14, h | 15, h | 16, h => exact h
       | 5, h => exact HandR.fr h hz hc
       | 6, h => exact HandR.fr h hz hc
       | 7, h => exact OwnW.fr h hz hc
       | 8, h => exact (let ⟨a, e, k⟩ := h; ⟨a, e, k.fra hz hc⟩)
       | 11, ⟨b, e, h1, h2, h3⟩ => exact ⟨b, e, h1, fun hs => Blk.fr (h2 hs) hz hc (by first | exact .inl (by decide) | exact .inr (by simp [natV, intV])), fun hs => (fun h => (let ⟨a, b, k, o1, o2⟩ := h; ⟨a, b, k.fra hz hc, o1.fra hz hc, o2.fra hz hc⟩)) (h3 hs)⟩
       | 12, _ => exact absurd rfl hne
       | 13, ⟨b, e, h1, h2, h3⟩ => exact ⟨b, e, h1, fun hs => Blk.fr (h2 hs) hz hc (by first | exact .inl (by decide) | exact .inr (by simp [natV, intV])), fun hs => (fun h => h.fra hz hc) (h3 hs)⟩)
     | (
       refine stT_agg (w0 := w9) (vs := [intV 7, .int .u8 2]) hz rfl KR rfl (by simp [intV, one_int]) fun w10 hb10 hc => ⟨b13, hc, q13, ⟨b13, (by first | exact e13 | rfl), q13, fun h => absurd h (by decide), fun _ => hb10⟩, ?_⟩
       intro iI s v hne hR
       match iI, hR with
       | 0, h | 1, h | 2, h | 3, h | 4, h | 9, h | 10, h | 14, h | 15, h | 16, h => exact h
       | 5, h => exact HandR.fr h hz hc
       | 6, h => exact HandR.fr h hz hc
       | 7, h => exact OwnW.fr h hz hc
       | 8, h => exact (let ⟨a, e, k⟩ := h; ⟨a, e, k.fra hz hc⟩)
       | 11, ⟨b, e, h1, h2, h3⟩ => exact ⟨b, e, h1, fun hs => Blk.fr (h2 hs) hz hc (by first | exact .inl (by decide) | exact .inr (by simp [natV, intV])), fun hs => (fun h => (let ⟨a, b, k, o1, o2⟩ := h; ⟨a, b, k.fra hz hc, o1.fra hz hc, o2.fra hz hc⟩)) (h3 hs)⟩
       | 12, ⟨b, e, h1, h2, h3⟩ => exact ⟨b, e, h1, fun hs => Blk.fr (h2 hs) hz hc (by first | exact .inl (by decide) | exact .inr (by simp [natV, intV])), fun hs => (fun h => (let ⟨a, k, o1⟩ := h; ⟨a, k.fra hz hc, o1.fra hz hc⟩)) (h3 hs)⟩
       | 13, _ => exact absurd rfl hne)
   ·intro g9 w9 hx9 hR hag
    have s9 := hx9.st
    have n9 : Now w9 := trivial
    have r9 := Ext.refl w9
    have z9 := hx9.size
    have d10 : (g9 54) = intV 0 := hR 10 _ _ (by decide) rfl rfl
    have d13 : ∃ b, (g9 14) = .pointer (some ⟨b, 0, none⟩) ∧ we.heap.size ≤ b ∧ (true = false → Blk w9 b 50 [intV 0, .int .u8 0]) ∧ (true = true → Blk w9 b 50 [intV 7, .int .u8 2]) := hR 13 _ _ (by decide) rfl rfl
    obtain ⟨b13, e13, q13, _, f13⟩ := d13
    replace f13 := f13 rfl
    have nw13 := Nw.of q13
    have KPC := f13.bk
    have a4 := hag.at 4 KR
    have a5 := hag.at 5 KR
    have a6 := hag.at 6 KR
    have a7 := hag.at 7 KR
    have a8 := hag.at 8 KR
    have a9 := hag.at 9 KR
    have a10 := hag.at 10 KR
    have a11 := hag.at 11 KR
    simp only [S5, ↓reduceIte, Nat.reduceEqDiff, initF, *] at a4 a5 a6 a7 a8 a9 a10 a11
    clear hag hR
    simp only [List.drop_succ_cons, List.drop_zero]
    rename_i q1 q2 q3
    clear q1 q2 q3
    (repeat' first
  | ((with_reducible refine at_row ?_); refine row1_a fun _ _ _ _ _ _ _ => ?_)
  | with_reducible first | (first | apply alloc_k | apply row_k); intro _ _ _ _ _ _ | (first | apply fork | apply forkp) <;> intro _ | refine forke (fun _ => ?_) fun _ _ => ?_ | refine tail_k fun _ _ _ => ?_ | refine ext_k fun _ _ _ => ?_ | refine need_a ?_ | refine st_agg KR rfl ON fun _ _ _ _ => ?_ | refine wpd_q_a ?_
  | simp (maxDischargeDepth := 3) only [↓X, ↓Y, ↓Q, S1, ↓reduceIte, Nat.reduceEqDiff, Nat.reduceAdd, Int.reduceLT, Int.reduceLE, Int.reduceNeg, Int.reduceBEq, Int.reduceBNe, Int.reduceEq, Nat.reduceLeDiff, Nat.reduceMul, Nat.reduceLT, *]
  | simp (singlePass := true) (maxDischargeDepth := 99) only [*, S2, Nat.reduceLT])
    have hlr : lenN rA = 4 := ((RA.1 we FR).slN (f := replC)).len
    have e4 : ((4 : Nat) : Int) = 4 := rfl
    refine ret_k (ref13Has (r := ⟨0, 1⟩) (Nat.le_refl _) ⟨(HA.1 _ FR).slN (f := stateC), (RA.1 _ FR).slN (f := replC)⟩) fun wf nf sf => ?_
    rw [ex26_has]
    (repeat' first
  | ((with_reducible refine at_row ?_); refine row1_a fun _ _ _ _ _ _ _ => ?_)
  | with_reducible first | (first | apply alloc_k | apply row_k); intro _ _ _ _ _ _ | (first | apply fork | apply forkp) <;> intro _ | refine forke (fun _ => ?_) fun _ _ => ?_ | refine tail_k fun _ _ _ => ?_ | refine ext_k fun _ _ _ => ?_ | refine need_a ?_ | refine st_agg KR rfl ON fun _ _ _ _ => ?_ | refine wpd_q_a ?_
  | simp (maxDischargeDepth := 3) only [↓X, ↓Y, ↓Q, S1, ↓reduceIte, Nat.reduceEqDiff, Nat.reduceAdd, Int.reduceLT, Int.reduceLE, Int.reduceNeg, Int.reduceBEq, Int.reduceBNe, Int.reduceEq, Nat.reduceLeDiff, Nat.reduceMul, Nat.reduceLT, *]
  | simp (singlePass := true) (maxDischargeDepth := 99) only [*, S2, Nat.reduceLT])
    refine ret_k (ref13Same (Nat.le_refl _) (Nat.le_refl _) ⟨(HA.1 _ FR).slN (f := stateC), (RA.1 _ FR).slN (f := replC)⟩ ⟨(HB.1 _ FR).slN (f := stateC), (RB.1 _ FR).slN (f := replC)⟩) fun wg ng sg => ?_
    rw [decide_eq_true rfl]
    (repeat' first
  | ((with_reducible refine at_row ?_); refine row1_a fun _ _ _ _ _ _ _ => ?_)
  | with_reducible first | (first | apply alloc_k | apply row_k); intro _ _ _ _ _ _ | (first | apply fork | apply forkp) <;> intro _ | refine forke (fun _ => ?_) fun _ _ => ?_ | refine tail_k fun _ _ _ => ?_ | refine ext_k fun _ _ _ => ?_ | refine need_a ?_ | refine st_agg KR rfl ON fun _ _ _ _ => ?_ | refine wpd_q_a ?_
  | simp (maxDischargeDepth := 3) only [↓X, ↓Y, ↓Q, S1, ↓reduceIte, Nat.reduceEqDiff, Nat.reduceAdd, Int.reduceLT, Int.reduceLE, Int.reduceNeg, Int.reduceBEq, Int.reduceBNe, Int.reduceEq, Nat.reduceLeDiff, Nat.reduceMul, Nat.reduceLT, *]
  | simp (singlePass := true) (maxDischargeDepth := 99) only [*, S2, Nat.reduceLT])
    refine ret_k (ref26Same (Nat.le_refl _) (Nat.le_refl _) ((AA.1 _ FR).slN (f := replyC)) ((AB.1 _ FR).slN (f := replyC))) fun wh nh sh => ?_
    rw [decide_eq_true rfl]
    (repeat' first
  | ((with_reducible refine at_row ?_); refine row1_a fun _ _ _ _ _ _ _ => ?_)
  | with_reducible first | (first | apply alloc_k | apply row_k); intro _ _ _ _ _ _ | (first | apply fork | apply forkp) <;> intro _ | refine forke (fun _ => ?_) fun _ _ => ?_ | refine tail_k fun _ _ _ => ?_ | refine ext_k fun _ _ _ => ?_ | refine need_a ?_ | refine st_agg KR rfl ON fun _ _ _ _ => ?_ | refine wpd_q_a ?_
  | simp (maxDischargeDepth := 3) only [↓X, ↓Y, ↓Q, S1, ↓reduceIte, Nat.reduceEqDiff, Nat.reduceAdd, Int.reduceLT, Int.reduceLE, Int.reduceNeg, Int.reduceBEq, Int.reduceBNe, Int.reduceEq, Nat.reduceLeDiff, Nat.reduceMul, Nat.reduceLT, *]
  | simp (singlePass := true) (maxDischargeDepth := 99) only [*, S2, Nat.reduceLT])
end Go.Proofs.YtblegjdogmcgbaaGreat
