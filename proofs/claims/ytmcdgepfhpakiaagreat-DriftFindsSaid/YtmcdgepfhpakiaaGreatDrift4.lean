
/- The layer drift: Diff. -/
import Derived.Test.YtmcdgepfhpakiaaGreatDrift3
namespace Go.Proofs.YtmcdgepfhpakiaaGreat
set_option linter.unusedSimpArgs false
set_option linter.unusedVariables false
open Go Go.RowKit
set_option maxRecDepth 100000
set_option linter.unusedSectionVars false
set_option maxHeartbeats 2000000
theorem no_diff {w : World} {B : Nat} {a b : WorldD} (h : ¬ diffOk a b = true) : ∃ v, Value.tuple #[Value.slice none 0 0, Value.int IntKind.i64 1] = .tuple #[v, .int .i64 (diffE a b)] ∧ OwnD w B v (if diffOk a b = true then diffL a b else []) := by
  refine ⟨.slice none 0 0, by simp [diffE, h], ?_⟩
  rw [if_neg h]
  exact Own.nil _ _ _ _
theorem hostsD_take : ∀ (k i : Nat) (x y : List StateD) (h1 : k < x.length) (h2 : k < y.length), hostsD i (x.take (k + 1)) (y.take (k + 1)) = hostsD i (x.take k) (y.take k) ++ hostD (i + k) x[k] y[k]
  | 0, i, x :: r, y :: s, _, _ => by simp [hostsD]
  | k + 1, i, x :: r, y :: s, h1, h2 => by
    have h := hostsD_take k (i + 1) r s (by simpa using h1) (by simpa using h2)
    simp only [List.take_succ_cons, hostsD, List.getElem_cons_succ, List.append_assoc] at h ⊢
    rw [h, show i + 1 + k = i + (k + 1) by omega]
  | _, _, [], _, h1, _ => absurd h1 (by simp)
  | _, _, _ :: _, [], _, h2 => absurd h2 (by simp)
theorem lenH : ∀ (k i : Nat) (x y : List StateD), (hostsD i (x.take k) (y.take k)).length ≤ 2 * k
  | 0, i, x, y => by simp [hostsD]
  | k + 1, i, [], y => by simp [hostsD]
  | k + 1, i, x :: r, [] => by simp [hostsD]
  | k + 1, i, x :: r, y :: s => by
    have h := lenH k (i + 1) r s
    have h2 : (hostD i x y).length ≤ 2 := List.length_filter_le _ _
    simp only [List.take_succ_cons, hostsD, List.length_append]
    omega
section
variable {w : World} {B : Nat} {hva rva hvb rvb : Value} {a b : WorldD}
theorem driftDiff (hB : B ≤ w.heap.size) (ha0 : WorldR w B hva rva a) (hb0 : WorldR w B hvb rvb b) (hn1 : a.hosts.length ≤ 1000000) (hn2 : a.replicas.length ≤ 1000000) (hn3 : b.replicas.length ≤ 1000000) (hpa : ∀ s ∈ a.hosts, 0 ≤ s.phase ∧ s.phase ≤ 255) (hpb : ∀ s ∈ b.hosts, 0 ≤ s.phase ∧ s.phase ≤ 255) : CallsV Tryz.prog 14 #[.agg #[hva, rva], .agg #[hvb, rvb]] w fun r w' => Ext w w' ∧ ∃ v, r = .tuple #[v, intV (diffE a b)] ∧ OwnD w' w.heap.size v (if diffOk a b = true then diffL a b else []) := by
  have hn : Now w := trivial
  have hx : Ext w w := Ext.refl w
  have ha' := ha0.sk hB
  have hb' := hb0.sk hB
  have hA := ha'.2.2.2.2
  have hBB := hb'.2.2.2.2
  (refine callsV_of Tryz.func14 rfl KR KR ?_; rw [Tryz.results14])
  (repeat' first
    | ((with_reducible refine at_row ?_); refine row1_a fun _ _ _ _ _ _ _ => ?_)
    | with_reducible first | (first | apply alloc_k | apply row_k); intro _ _ _ _ _ _ | (first | apply fork | apply forkp) <;> intro _ | refine forke (fun _ => ?_) fun _ _ => ?_ | refine tail_k fun _ _ _ => ?_ | refine ext_k fun _ _ _ => ?_ | refine need_a ?_ | refine st_agg KR rfl ON fun _ _ _ _ => ?_ | refine wpd_q_a ?_
    | ((with_reducible refine at_f 33 ?_); refine ret_k (driftAscending (B := B) (x := a) FR (hA _ FR)) fun _ _ _ => ?_)
    | ((with_reducible refine at_f 33 ?_); refine ret_k (driftAscending (B := B) (x := b) FR (hBB _ FR)) fun _ _ _ => ?_)
    | simp (maxDischargeDepth := 3) only [↓X, ↓Y, ↓Q, S1, ↓reduceIte, Nat.reduceEqDiff, Nat.reduceAdd, Int.reduceLT, Int.reduceLE, Int.reduceNeg, Int.reduceBEq, Int.reduceBNe, Int.reduceEq, Nat.reduceLeDiff, Nat.reduceMul, Nat.reduceLT, *]
    | simp (singlePass := true) (maxDischargeDepth := 99) only [*, S2, Nat.reduceLT])
  rotate_left
  · exact no_diff (by simp [diffOk, *])
  · exact no_diff (by simp [diffOk, *])
  · exact no_diff (by simp [diffOk, *])
  rename_i b2 w2 n2 k2 s2 q2 b3 w3 n3 k3 s3 q3 heq wa na sa hsa wb nb sb hsb bl wL nL kL sL qL
  have K2 : Blk wL b2 36 [hva, rva] := k2.2.1 wL FR
  have K3 : Blk wL b3 36 [hvb, rvb] := k3.2.1 wL FR
  have KL : Blk wL bl 83 [.slice none 0 0] := kL.2.1 wL FR
  have hBL : Bl B w wL := FR
  have hxL : Ext w wL := FR
  have hBbl : B ≤ bl := FR
  have hwbl : w.heap.size ≤ bl := FR
  have n23 : ¬ b2 = bl ∧ ¬ b3 = bl := by
    have h2 : b2 < wb.heap.size := FR
    have h3 : b3 < wb.heap.size := FR
    have h4 : wb.heap.size ≤ bl := FR
    omega
  have I0 : RowI bl wL.heap.size (.slice none 0 0) (hostsD 0 (a.hosts.take 0) (b.hosts.take 0)) wL wL := ⟨_, KL, Own.nil _ _ _ _, fun _ h => .inl h, TBn.refl wL⟩
  replace I0 : Hid _ := I0
  replace heq : Hid _ := heq
  clear k2 k3 kL sL sa sb s2 s3 q2 q3 qL na nb n2 n3 nL
  refine loop_g a.hosts.length (fun g0 k g w' => g 31 = .int .i64 (k : Int) ∧ (g 2 = g0 2 ∧ g 3 = g0 3 ∧ g 6 = g0 6 ∧ g 29 = g0 29 ∧ g 30 = g0 30) ∧ Hid (RowI bl wL.heap.size (.slice none 0 0) (hostsD 0 (a.hosts.take k) (b.hosts.take k)) wL w')) KR ?_ ?_ ?_
  · (repeat' first
    | ((with_reducible refine at_row ?_); refine row1_a fun _ _ _ _ _ _ _ => ?_)
    | with_reducible first | (first | apply alloc_k | apply row_k); intro _ _ _ _ _ _ | (first | apply fork | apply forkp) <;> intro _ | refine forke (fun _ => ?_) fun _ _ => ?_ | refine tail_k fun _ _ _ => ?_ | refine ext_k fun _ _ _ => ?_ | refine need_a ?_ | refine st_agg KR rfl ON fun _ _ _ _ => ?_ | refine wpd_q_a ?_
    | simp (maxDischargeDepth := 3) only [↓X, ↓Y, ↓Q, S1, ↓reduceIte, Nat.reduceEqDiff, Nat.reduceAdd, Int.reduceLT, Int.reduceLE, Int.reduceNeg, Int.reduceBEq, Int.reduceBNe, Int.reduceEq, Nat.reduceLeDiff, Nat.reduceMul, Nat.reduceLT, *]
    | simp (singlePass := true) (maxDischargeDepth := 99) only [*, S2, Nat.reduceLT])
    all_goals exact I0.out
  · rintro k m g wk hk hlt nk ⟨hi, hf, hp⟩
    simp (maxDischargeDepth := 3) only [U, ↓reduceIte, Nat.reduceEqDiff, *] at hf
    have hBk : Bl B w wk := ⟨hB, hBL.2.trans (hp.out.bl (Nat.le_trans hB hxL.size) hBbl (fun _ h => by cases h)).2⟩
    obtain ⟨vk, hlk, hok, hgk, Tk⟩ := hp.out
    have k2 := (K2.tb Tk (by rintro (h | h); exact n23.1 h; cases h)).bk
    have k3 := (K3.tb Tk (by rintro (h | h); exact n23.2 h; cases h)).bk
    have kl := hlk.bk
    have hBw : B ≤ wk.heap.size := Nat.le_trans (Nat.le_trans hB hxL.size) Tk.size
    have hw : IntKind.i64.wrap ((k : Int) + 1) = ((k + 1 : Nat) : Int) := by rw [wrap_i64_id] <;> omega
    have rk : Ext wk wk := Ext.refl wk
    have bk : Bl wk.heap.size wk wk := Bl.refl (Nat.le_refl _)
    have hlt' : (k : Int) < (a.hosts.length : Int) := by omega
    have hkb : k < b.hosts.length := by have := heq.out; omega
    have hwa : IntKind.i64.wrap a.hosts[k].phase = a.hosts[k].phase := by have := hpa _ (List.getElem_mem hlt); rw [wrap_i64_id] <;> omega
    have hwb : IntKind.i64.wrap b.hosts[k].phase = b.hosts[k].phase := by have := hpb _ (List.getElem_mem hkb); rw [wrap_i64_id] <;> omega
    (repeat' first
    | ((with_reducible refine at_row ?_); refine row1_a fun _ _ _ _ _ _ _ => ?_)
    | with_reducible first | (first | apply alloc_k | apply row_k); intro _ _ _ _ _ _ | (first | apply fork | apply forkp) <;> intro _ | refine forke (fun _ => ?_) fun _ _ => ?_ | refine tail_k fun _ _ _ => ?_ | refine ext_k fun _ _ _ => ?_ | refine need_a ?_ | refine st_agg KR rfl ON fun _ _ _ _ => ?_ | refine wpd_q_a ?_
    | simp (maxDischargeDepth := 3) only [↓X, ↓Y, ↓Q, S1, ↓reduceIte, Nat.reduceEqDiff, Nat.reduceAdd, Int.reduceLT, Int.reduceLE, Int.reduceNeg, Int.reduceBEq, Int.reduceBNe, Int.reduceEq, Nat.reduceLeDiff, Nat.reduceMul, Nat.reduceLT, *, stateV]
    | simp (singlePass := true) (maxDischargeDepth := 99) only [*, S2, Nat.reduceLT, stateV])
    rename_i bR wR nR kR sR qR
    have hxE : Ext wk wR := FR
    have hbR : wk.heap.size ≤ bR := FR
    have hrow : OwnD wR 0 (.slice (some ⟨bR, 0, none⟩) 2 2) [⟨3, (k : Int), 0, a.hosts[k].phase, b.hosts[k].phase⟩, ⟨4, (k : Int), 0, a.hosts[k].firmware, b.hosts[k].firmware⟩] := Own.ofBlkN (by simp) (kR.2.1 _ FR) (by intro c hc; simp only [List.map_cons, List.map_nil, List.mem_cons, List.not_mem_nil, or_false] at hc; rcases hc with rfl | rfl <;> rfl) (Nat.zero_le _) (by simp)
    have hlL : (hostsD 0 (a.hosts.take k) (b.hosts.take k)).length + 2 < 1000000000000 := by have := lenH k 0 a.hosts b.hosts; omega
    refine CallsV.mono (listAdd (B1 := 0) (hlk.ext hxE) (hok.ext hxE) (Nat.le_trans Tk.size hxE.size) hrow (fun b hb h2 => by obtain rfl := Option.some.inj hb; exact absurd (hok.lt _ h2).2 (Nat.not_lt.2 hbR)) hlL) ?_
    rintro _ w8 h8
    have F8 : Hid (RowI bl wL.heap.size (.slice none 0 0) (hostsD 0 (a.hosts.take (k + 1)) (b.hosts.take (k + 1))) wL w8) := by
      refine RowI.trans (hlk.ext hxE) hgk (Tk.trans (TBn.of_ext hxE)) ?_
      rw [hostsD_take k 0 _ _ hlt hkb, Nat.zero_add]
      exact h8
    clear h8
    have n8 : Now w8 := trivial
    (repeat' first
    | ((with_reducible refine at_row ?_); refine row1_a fun _ _ _ _ _ _ _ => ?_)
    | with_reducible first | (first | apply alloc_k | apply row_k); intro _ _ _ _ _ _ | (first | apply fork | apply forkp) <;> intro _ | refine forke (fun _ => ?_) fun _ _ => ?_ | refine tail_k fun _ _ _ => ?_ | refine ext_k fun _ _ _ => ?_ | refine need_a ?_ | refine st_agg KR rfl ON fun _ _ _ _ => ?_ | refine wpd_q_a ?_
    | simp (maxDischargeDepth := 3) only [↓X, ↓Y, ↓Q, S1, ↓reduceIte, Nat.reduceEqDiff, Nat.reduceAdd, Int.reduceLT, Int.reduceLE, Int.reduceNeg, Int.reduceBEq, Int.reduceBNe, Int.reduceEq, Nat.reduceLeDiff, Nat.reduceMul, Nat.reduceLT, *]
    | simp (singlePass := true) (maxDischargeDepth := 99) only [*, S2, Nat.reduceLT])
    refine next_g hk hlt ?_
    (repeat' first
    | ((with_reducible refine at_row ?_); refine row1_a fun _ _ _ _ _ _ _ => ?_)
    | with_reducible first | (first | apply alloc_k | apply row_k); intro _ _ _ _ _ _ | (first | apply fork | apply forkp) <;> intro _ | refine forke (fun _ => ?_) fun _ _ => ?_ | refine tail_k fun _ _ _ => ?_ | refine ext_k fun _ _ _ => ?_ | refine need_a ?_ | refine st_agg KR rfl ON fun _ _ _ _ => ?_ | refine wpd_q_a ?_
    | simp (maxDischargeDepth := 3) only [↓X, ↓Y, ↓Q, S1, ↓reduceIte, Nat.reduceEqDiff, Nat.reduceAdd, Int.reduceLT, Int.reduceLE, Int.reduceNeg, Int.reduceBEq, Int.reduceBNe, Int.reduceEq, Nat.reduceLeDiff, Nat.reduceMul, Nat.reduceLT, *]
    | simp (singlePass := true) (maxDischargeDepth := 99) only [*, S2, Nat.reduceLT])
    all_goals exact F8.out
  · rintro g wk nk ⟨hi, hf, hp⟩
    simp (maxDischargeDepth := 3) only [U, ↓reduceIte, Nat.reduceEqDiff, *] at hf
    have hBk : Bl B w wk := ⟨hB, hBL.2.trans (hp.out.bl (Nat.le_trans hB hxL.size) hBbl (fun _ h => by cases h)).2⟩
    have hp' := hp.out
    have eb : b.hosts.take a.hosts.length = b.hosts := by rw [heq.out]; exact List.take_length
    rw [List.take_length, eb] at hp'
    obtain ⟨vk, hlk, hok, hgk, Tk⟩ := hp'
    have k2 := (K2.tb Tk (by rintro (h | h); exact n23.1 h; cases h)).bk
    have k3 := (K3.tb Tk (by rintro (h | h); exact n23.2 h; cases h)).bk
    have hBw : B ≤ wk.heap.size := Nat.le_trans (Nat.le_trans hB hxL.size) Tk.size
    have rk : Ext wk wk := Ext.refl wk
    have bk : Bl wk.heap.size wk wk := Bl.refl (Nat.le_refl _)
    clear hp eb
    have hge : ¬ a.hosts.length < b.hosts.length := by have := heq.out; omega
    have hBL2 : B ≤ wL.heap.size := Nat.le_trans hB hxL.size
    have hlen1 : (hostsD 0 a.hosts b.hosts).length ≤ 2000000 := by
      have := lenH a.hosts.length 0 a.hosts b.hosts
      rw [List.take_length, heq.out, List.take_length] at this
      omega
    (repeat' first
    | ((with_reducible refine at_row ?_); refine row1_a fun _ _ _ _ _ _ _ => ?_)
    | with_reducible first | (first | apply alloc_k | apply row_k); intro _ _ _ _ _ _ | (first | apply fork | apply forkp) <;> intro _ | refine forke (fun _ => ?_) fun _ _ => ?_ | refine tail_k fun _ _ _ => ?_ | refine ext_k fun _ _ _ => ?_ | refine need_a ?_ | refine st_agg KR rfl ON fun _ _ _ _ => ?_ | refine wpd_q_a ?_
    | simp (maxDischargeDepth := 3) only [↓X, ↓Y, ↓Q, S1, ↓reduceIte, Nat.reduceEqDiff, Nat.reduceAdd, Int.reduceLT, Int.reduceLE, Int.reduceNeg, Int.reduceBEq, Int.reduceBNe, Int.reduceEq, Nat.reduceLeDiff, Nat.reduceMul, Nat.reduceLT, *]
    | simp (singlePass := true) (maxDischargeDepth := 99) only [*, S2, Nat.reduceLT])
    refine CallsV.mono (driftDiff1 (B := B) hBw (hA wk hBk).r (hBB wk hBk).r hlk hok Tk.size hBbl hBL2 (.inl rfl) (by omega)) ?_
    rintro _ wx hxx
    have hBx : Bl B w wx := ⟨hB, hBk.2.trans (hxx.bl hBw hBbl (fun b h => Nat.le_trans hBL2 (hok.lt b h).1)).2⟩
    obtain ⟨vx, hlx, hox, hgx, Tx⟩ := RowI.trans hlk hgk Tk hxx
    clear hxx k2 k3 rk bk
    have k2 := (K2.tb Tx (by rintro (h | h); exact n23.1 h; cases h)).bk
    have k3 := (K3.tb Tx (by rintro (h | h); exact n23.2 h; cases h)).bk
    have nx : Now wx := trivial
    have rk : Ext wx wx := Ext.refl wx
    have bk : Bl wx.heap.size wx wx := Bl.refl (Nat.le_refl _)
    have hlen2 : ((onlyL a.replicas b.replicas).map (mkD 1)).length ≤ 1000000 := by
      rw [List.length_map]
      exact Nat.le_trans (List.length_filter_le _ _) hn2
    (repeat' first
    | ((with_reducible refine at_row ?_); refine row1_a fun _ _ _ _ _ _ _ => ?_)
    | with_reducible first | (first | apply alloc_k | apply row_k); intro _ _ _ _ _ _ | (first | apply fork | apply forkp) <;> intro _ | refine forke (fun _ => ?_) fun _ _ => ?_ | refine tail_k fun _ _ _ => ?_ | refine ext_k fun _ _ _ => ?_ | refine need_a ?_ | refine st_agg KR rfl ON fun _ _ _ _ => ?_ | refine wpd_q_a ?_
    | simp (maxDischargeDepth := 3) only [↓X, ↓Y, ↓Q, S1, ↓reduceIte, Nat.reduceEqDiff, Nat.reduceAdd, Int.reduceLT, Int.reduceLE, Int.reduceNeg, Int.reduceBEq, Int.reduceBNe, Int.reduceEq, Nat.reduceLeDiff, Nat.reduceMul, Nat.reduceLT, *]
    | simp (singlePass := true) (maxDischargeDepth := 99) only [*, S2, Nat.reduceLT])
    refine CallsV.mono (driftDiff1 (B := B) (Nat.le_trans hBL2 Tx.size) (hBB wx hBx).r (hA wx hBx).r hlx hox Tx.size hBbl hBL2 (.inr rfl) (by rw [List.length_append]; omega)) ?_
    rintro _ wz hzz
    obtain ⟨vz, hlz, hoz, hgz, Tz⟩ := RowI.trans hlx hgx Tx hzz
    clear hzz k2 k3 rk bk
    have kz := hlz.bk
    have nz : Now wz := trivial
    have hxz : Ext w wz := hxL.trans' ⟨Tz.os, Tz.tape, Tz.output, Tz.size, fun c hc => Tz.block c (Nat.lt_of_lt_of_le hc hxL.size) (by rintro (rfl | h); omega; cases h)⟩
    have hok9 : diffOk a b = true := by simp [diffOk, heq.out, hsa, hsb]
    have F9 : Hid (OwnD wz w.heap.size vz (diffL a b) ∧ diffE a b = 0) := by
      refine ⟨?_, by simp [diffE, hok9]⟩
      have := hoz.more hxL.size
      rw [List.append_assoc] at this
      exact this
    have rz : Ext wz wz := Ext.refl wz
    (repeat' first
    | ((with_reducible refine at_row ?_); refine row1_a fun _ _ _ _ _ _ _ => ?_)
    | with_reducible first | (first | apply alloc_k | apply row_k); intro _ _ _ _ _ _ | (first | apply fork | apply forkp) <;> intro _ | refine forke (fun _ => ?_) fun _ _ => ?_ | refine tail_k fun _ _ _ => ?_ | refine ext_k fun _ _ _ => ?_ | refine need_a ?_ | refine st_agg KR rfl ON fun _ _ _ _ => ?_ | refine wpd_q_a ?_
    | simp (maxDischargeDepth := 3) only [↓X, ↓Y, ↓Q, S1, ↓reduceIte, Nat.reduceEqDiff, Nat.reduceAdd, Int.reduceLT, Int.reduceLE, Int.reduceNeg, Int.reduceBEq, Int.reduceBNe, Int.reduceEq, Nat.reduceLeDiff, Nat.reduceMul, Nat.reduceLT, *]
    | simp (singlePass := true) (maxDischargeDepth := 99) only [*, S2, Nat.reduceLT])
    exact ⟨vz, by rw [F9.out.2], F9.out.1⟩
end
end Go.Proofs.YtmcdgepfhpakiaaGreat
