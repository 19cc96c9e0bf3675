
/- The library's Repeat of one number; Index, Contains of numbers. -/
import Derived.Test.YtopfddchckdhgaaGreatCopy23
import Derived.Test.YtopfddchckdhgaaGreatRelE
import Derived.Test.YtopfddchckdhgaaGreatRelE
namespace Go.Proofs.YtopfddchckdhgaaGreat
set_option linter.unusedSimpArgs false
set_option linter.unusedVariables false
open Go Go.RowKit
set_option maxRecDepth 100000
set_option linter.unusedSectionVars false
set_option maxHeartbeats 2000000
section
variable {w : World} {B : Nat} {v : Value}
theorem slicesIndexI {x : Int} {l : List Int} (hB : B ≤ w.heap.size) (hv : Sl w B none 1 v (l.map intV)) : Ret Tryz.prog 52 #[v, intV x] w (intV (fidx (fun y => x == y) l)) := by
  have hn : Now w := trivial
  have hx : Ext w w := Ext.refl w
  have hv' := hv.k hB
  have hmax : l.length ≤ 9223372036854775807 := by simpa using hv.maxLen
  (refine callsV_of Tryz.func52 rfl KR KR ?_; rw [Tryz.results52])
  (repeat' first
    | with_reducible first | exact ⟨⟩ | (refine gB ?_; intros) | refine gT ?_ ?_
    | refine gs ?_
    | refine sx ?_)
  refine loop_k (l.length) (fun g0 k g _ => g 8 = .int .i64 k ∧ (g 0 = g0 0 ∧ g 1 = g0 1 ∧ g 7 = g0 7) ∧ Hid (∀ i (h : i < l.length), i < k → l[i] ≠ x)) KR (hmax) ?_ ?_ ?_
  · (repeat' first
    | with_reducible first | exact ⟨⟩ | (refine gB ?_; intros) | refine gT ?_ ?_
    | refine gs ?_
    | simp (maxDischargeDepth := 3) only [↓X, ↓Y, ↓Q, S1, ↓reduceIte, Nat.reduceEqDiff, Nat.reduceAdd, Int.reduceLT, Int.reduceLE, Int.reduceNeg, Int.reduceBEq, Int.reduceBNe, Int.reduceEq, Nat.reduceLeDiff, Nat.reduceMul, Nat.reduceLT, *, List.take_zero, List.all_nil, List.any_nil]
    | simp (singlePass := true) (maxDischargeDepth := 99) only [*, S2, Nat.reduceLT, List.take_zero, List.all_nil, List.any_nil])
    exact fun i _ h => absurd h (by omega)
  · rintro k m g wk hk hlt _ _ _ hw ⟨hi, hf, hp⟩
    simp (maxDischargeDepth := 3) only [U, ↓reduceIte, Nat.reduceEqDiff, *] at hf
    (repeat' first
    | with_reducible first | exact ⟨⟩ | (refine gB ?_; intros) | refine gT ?_ ?_
    | refine gs ?_
    | refine sx ?_)
    · rename_i he
      subst he
      congr 1
      unfold fidx
      rw [List.findIdx?_eq_some_iff_getElem.2 ⟨hlt, by simp, fun j hj => by have := hp.out j (by omega) hj; simpa using fun e => this e.symm⟩]
    · rename_i hb he
      refine next_k hk hlt ?_ FR
      (repeat' first
    | with_reducible first | exact ⟨⟩ | (refine gB ?_; intros) | refine gT ?_ ?_
    | refine gs ?_
    | refine sx ?_)
      intro i h1 h2
      rcases Nat.lt_or_eq_of_le (Nat.le_of_lt_succ h2) with h3 | rfl
      · exact hp.out i h1 h3
      · exact fun e => he e.symm
  · rintro g wk _ _ _ ⟨hi, hf, hp⟩
    simp (maxDischargeDepth := 3) only [U, ↓reduceIte, Nat.reduceEqDiff, *] at hf
    (repeat' first
    | with_reducible first | exact ⟨⟩ | (refine gB ?_; intros) | refine gT ?_ ?_
    | refine gs ?_
    | refine sx ?_)
    congr 1
    unfold fidx
    rw [List.findIdx?_eq_none_iff.2 fun y hy => by
      obtain ⟨i, hi', rfl⟩ := List.getElem_of_mem hy
      have := hp.out i hi' hi'
      simpa using fun e => this e.symm]
theorem slicesContainsI {x : Int} {l : List Int} (hB : B ≤ w.heap.size) (hv : Sl w B none 1 v (l.map intV)) : Ret Tryz.prog 22 #[v, intV x] w (.bool (l.contains x)) := by
  have hn : Now w := trivial
  have hx : Ext w w := Ext.refl w
  have hbw : Bl B w w := Bl.refl hB
  have hV := fun w' (h : Bl B w w') => hv.bl h
  replace hV : Hid _ := hV
  have e : decide (0 ≤ fidx (fun y => x == y) l) = l.contains x := by
    rw [Bool.eq_iff_iff, decide_eq_true_eq, List.contains_iff_mem]
    unfold fidx
    cases h : l.findIdx? (fun y => x == y) with
    | none =>
      rw [List.findIdx?_eq_none_iff] at h
      constructor
      · intro h1
        exact absurd h1 (by decide)
      · intro h1
        have := h x h1
        simp at this
    | some i =>
      rw [List.findIdx?_eq_some_iff_getElem] at h
      obtain ⟨h1, h2, _⟩ := h
      refine ⟨fun _ => ?_, fun _ => Int.natCast_nonneg i⟩
      have : x = l[i] := by simpa using h2
      rw [this]
      exact List.getElem_mem h1
  (refine callsV_of Tryz.func22 rfl KR KR ?_; rw [Tryz.results22])
  (repeat' first
    | with_reducible first | exact ⟨⟩ | (refine gB ?_; intros) | refine gT ?_ ?_
    | refine gs ?_
    | ((with_reducible refine at_f 52 ?_); refine ret_k (slicesIndexI (B := B) FR (hV.out _ FR)) fun _ _ _ => ?_)
    | refine sx ?_)
  all_goals (rw [← e])
theorem mul64z {n : Nat} (hn : n ≤ 12) : Ret Tryz.prog 94 #[.int .u64 1, .int .u64 n] w (.tuple #[.int .u64 0, .int .u64 n]) := by
  have hn : Now w := trivial
  have hx : Ext w w := Ext.refl w
  have k1 : ∀ n : Fin 13, andI .u64 ((n.1 : Nat) : Int) 4294967295 = (n.1 : Nat) := by decide
  have k2 : ∀ n : Fin 13, shrI .u64 ((n.1 : Nat) : Int) 32 = 0 := by decide
  have a1 := k1 ⟨n, by omega⟩
  have a2 := k2 ⟨n, by omega⟩
  have a3 : andI .u64 1 4294967295 = 1 := by decide
  have a4 : shrI .u64 1 32 = 0 := by decide
  have a5 : IntKind.u64.wrap (n : Int) = n := by rw [IntKind.wrap_u64]; omega
  have a6 : IntKind.u64.wrap 0 = 0 := by decide
  have a7 : andI .u64 0 4294967295 = 0 := by decide
  have a8 : shrI .u64 0 32 = 0 := by decide
  simp only at a1 a2
  clear k1 k2
  (refine callsV_of Tryz.func94 rfl KR KR ?_; rw [Tryz.results94])
  (repeat' first
    | with_reducible first | exact ⟨⟩ | (refine gB ?_; intros) | refine gT ?_ ?_
    | refine gs ?_
    | simp (maxDischargeDepth := 3) only [↓X, ↓Y, ↓Q, S1, ↓reduceIte, Nat.reduceEqDiff, Nat.reduceAdd, Int.reduceLT, Int.reduceLE, Int.reduceNeg, Int.reduceBEq, Int.reduceBNe, Int.reduceEq, Nat.reduceLeDiff, Nat.reduceMul, Nat.reduceLT, *, Int.one_mul, Int.zero_mul, Int.mul_zero, Int.zero_add, Int.add_zero]
    | simp (singlePass := true) (maxDischargeDepth := 99) only [*, S2, Nat.reduceLT, Int.one_mul, Int.zero_mul, Int.mul_zero, Int.zero_add, Int.add_zero])
  all_goals done
theorem mul64one {n : Nat} (h12 : n ≤ 12) : Ret Tryz.prog 51 #[.int .u64 1, .int .u64 n] w (.tuple #[.int .u64 0, .int .u64 n]) := by
  have hn : Now w := trivial
  have hx : Ext w w := Ext.refl w
  (refine callsV_of Tryz.func51 rfl KR KR ?_; rw [Tryz.results51])
  (repeat' first
    | with_reducible first | exact ⟨⟩ | (refine gB ?_; intros) | refine gT ?_ ?_
    | refine gs ?_
    | ((with_reducible refine at_f 94 ?_); refine ret_k (mul64z h12) fun _ _ _ => ?_)
    | refine sx ?_)
def rowM (n m : Nat) : List Value := List.replicate m (.int .i64 (-1)) ++ List.replicate (n - m) (.int .i64 0)
theorem rowM_len {n m : Nat} (h : m ≤ n) : (rowM n m).length = n := by simp [rowM]; omega
theorem rowM_copy {n c d : Nat} (hc : c ≤ n) (hd : d = min c (n - c)) : (rowM n c).take c ++ List.replicate d (.int .i64 (-1)) ++ (rowM n c).drop (c + d) = rowM n (c + d) := by
  unfold rowM
  rw [List.take_left' (by simp), List.drop_append, List.drop_eq_nil_of_le (by simp), List.nil_append, List.drop_replicate, List.length_replicate, List.replicate_append_replicate]
  congr 2
  omega
theorem rowM_src {n c b : Nat} {w : World} (hb : Blk w b 3 (rowM n c)) : ∀ j u, (List.replicate (min c (n - c)) (Value.int .i64 (-1)))[j]? = some u → w.cell? ((⟨b, 0, none⟩ : Addr).add j) = some u := by
  intro j u hj
  have e : (⟨b, 0, none⟩ : Addr).add j = ⟨b, j, none⟩ := by
    unfold Addr.add
    split
    · rename_i e; rw [e]
    · simp
  rw [e, hb.cell]
  rw [List.getElem?_replicate] at hj
  split at hj
  · rw [rowM, List.getElem?_append_left (by simp; omega), List.getElem?_replicate, if_pos (by omega)]
    exact hj
  · cases hj
theorem rowM_full (n : Nat) : rowM n n = List.replicate n (.int .i64 (-1)) := by simp [rowM]
def dblN (n : Nat) : Nat := if n ≤ 1 then 0 else if n ≤ 2 then 1 else if n ≤ 4 then 2 else if n ≤ 8 then 3 else 4
theorem dblN_lt {n k : Nat} (h12 : n ≤ 12) (h : k < dblN n) : 2 ^ k < n := by
  unfold dblN at h
  have : k < 4 := by split at h <;> (try split at h) <;> (try split at h) <;> (try split at h) <;> omega
  rcases (by omega : k = 0 ∨ k = 1 ∨ k = 2 ∨ k = 3) with rfl | rfl | rfl | rfl <;> (split at h <;> (try split at h) <;> (try split at h) <;> (try split at h) <;> omega)
theorem dblN_full {n : Nat} (h12 : n ≤ 12) : min (2 ^ dblN n) n = n := by
  unfold dblN
  split
  · omega
  · split
    · omega
    · split
      · omega
      · split <;> omega
theorem slicesRepeat1 {n b0 : Nat} (h12 : n ≤ 12) (hv : Blk w b0 3 [.int .i64 (-1)]) : CallsV Tryz.prog 21 #[.slice (some ⟨b0, 0, none⟩) 1 1, .int .i64 n] w fun r w' => Ext w w' ∧ ∃ b, r = .slice (some ⟨b, 0, none⟩) n n ∧ Blk w' b 3 (List.replicate n (.int .i64 (-1))) ∧ w.heap.size ≤ b := by
  have hn : Now w := trivial
  have hx : Ext w w := Ext.refl w
  have k0 := hv.bk
  have e1 : IntKind.u64.wrap (n : Int) = n := by rw [IntKind.wrap_u64]; omega
  have e2 : IntKind.i64.wrap (n : Int) = n := wrap_nat (by omega)
  have e3 : IntKind.u64.wrap 1 = 1 := by decide
  have e4 : ¬ ((n : Int) < 0) := by omega
  have e5 : ¬ (9223372036854775807 < (n : Int)) := by omega
  (refine callsV_of Tryz.func21 rfl KR KR ?_; rw [Tryz.results21])
  (repeat' first
    | with_reducible first | exact ⟨⟩ | (refine gB ?_; intros) | refine gT ?_ ?_
    | refine gs ?_
    | ((with_reducible refine at_f 51 ?_); refine ret_k (mul64one h12) fun _ _ _ => ?_)
    | refine sx ?_)
  refine mk_one_k (n := n) (z := .int .i64 0) rfl (by decide) (by omega) fun b w2 n2 k2 s2 q2 => ?_
  have kb0 := k2.2.1 _ k2.2.2.1
  have hc0 : ∀ j u, (List.replicate (min 1 n) (Value.int .i64 (-1)))[j]? = some u → w2.cell? ((⟨b0, 0, none⟩ : Addr).add j) = some u := fun j u hj => by
    have hbb : Blk w2 b0 3 [.int .i64 (-1)] := k0.2.1 _ FR
    rw [add_none, hbb.cell, Nat.zero_add]
    rw [List.getElem?_replicate] at hj
    split at hj
    · obtain rfl : j = 0 := by omega
      obtain rfl := Option.some.inj hj
      rfl
    · cases hj
  (repeat' first
    | with_reducible first | exact ⟨⟩ | (refine gB ?_; intros) | refine gT ?_ ?_
    | refine gs ?_
    | refine sx ?_)
  refine copyB_kR (e := 3) (sz := 1) (by_ := 8) (o := 0) (cs := List.replicate (min 1 n) (.int .i64 (-1))) KR kb0 hc0 (by simp) (by simp; omega) (fun u hu => by rw [List.eq_of_mem_replicate hu]; rfl) fun w3 n3 k3 s3 c3 => ?_
  have hr1 : List.take 0 (List.replicate n (Value.int .i64 0)) ++ List.replicate (min 1 n) (.int .i64 (-1)) ++ List.drop (0 + (List.replicate (min 1 n) (Value.int .i64 (-1))).length) (List.replicate n (.int .i64 0)) = rowM n (min 1 n) := by
    simp [rowM]
  rw [hr1] at k3
  have hb3 := k3.lt
  have hdl := fun k (h : k < dblN n) => dblN_lt h12 h
  have hdf := dblN_full h12
  have hd4 : dblN n ≤ 4 := by unfold dblN; split <;> (try split) <;> (try split) <;> (try split) <;> omega
  replace hdl : Hid _ := hdl
  have hx23 : Cg b w2 w3 := c3
  have hle : w.heap.size ≤ b := FR
  have hk3 : Hid (Blk w3 b 3 (rowM n (min 1 n))) := k3
  clear k2 kb0 hc0 hr1 k3
  (repeat' first
    | with_reducible first | exact ⟨⟩ | (refine gB ?_; intros) | refine gT ?_ ?_
    | refine gs ?_
    | refine sx ?_)
  refine loop_b b (dblN n) (fun g0 k g w' => g 8 = .int .i64 ((min (2 ^ k) n : Nat) : Int) ∧ (g 7 = g0 7) ∧ Hid (Blk w' b 3 (rowM n (min (2 ^ k) n)))) KR (by omega) hb3 ?_ ?_ ?_
  · (repeat' first
    | with_reducible first | exact ⟨⟩ | (refine gB ?_; intros) | refine gT ?_ ?_
    | refine gs ?_
    | refine sx ?_)
    all_goals exact hk3
  · rintro k m g wk hk hlt nk sk ck hbk hw ⟨hi, hf, hp⟩
    simp (maxDischargeDepth := 3) only [U, ↓reduceIte, Nat.reduceEqDiff, *] at hf
    have h2k := hdl.out k hlt
    have hmk : min (2 ^ k) n = 2 ^ k := by omega
    rw [hmk] at hi hp
    have hp1 := Nat.pow_pos (n := k) (show 0 < 2 by decide)
    have h2s : 2 ^ (k + 1) = 2 ^ k + 2 ^ k := by rw [Nat.pow_succ]; omega
    generalize 2 ^ k = c at *
    replace h2s : Hid _ := h2s
    have hlt2 : (c : Int) < (n : Int) := by omega
    (repeat' first
    | ((with_reducible refine wpd_at 9 ?_); refine wpd_hold ?_)
    | with_reducible first | exact ⟨⟩ | (refine gB ?_; intros) | refine gT ?_ ?_
    | refine gs ?_
    | refine sx ?_)
    unfold wpdH
    refine wpd_relI 7 8 (fun q w' => Cg b wk w' ∧ (q = false → Ext wk w') ∧ (q = true → Blk w' b 3 (rowM n (min (c + c) n)))) (by decide) (fun w h => ⟨(Chg.refl' wk b).trans_ext h, fun _ => h, fun e => (by cases e)⟩) (fun q a c h hx => ⟨h.1.trans_ext hx, fun e => (h.2.1 e).trans hx, fun e => (h.2.2 e).ext hx⟩) (fun iI v w9 => match iI with
      | 0 => v = .int .i64 (c : Nat)
      | 1 => v = .slice (some ⟨b, 0, none⟩) n n
      | 2 => v = .int .i64 (c : Nat)
      | 3 => v = .slice (some ⟨b, c, none⟩) (n - c) (n - c)
      | 4 => v = .slice (some ⟨b, 0, none⟩) n n
      | 5 => v = .int .i64 (c : Nat)
      | 6 => v = .slice (some ⟨b, 0, none⟩) c n
      | 7 => v = .int .i64 ((min c (n - c) : Nat) : Int)
      | _ => False) KR KR KR ?_ ?_ ?_
    · intro iI v w1 w2 hR hx9
      match iI, hR with
      | 0, h => exact h
      | 1, h => exact h
      | 2, h => exact h
      | 3, h => exact h
      | 4, h => exact h
      | 5, h => exact h
      | 6, h => exact h
      | 7, h => exact h
    · intro iI oO hi ho qI gF w9 hx9 hq hdep hag
      have s9 := hx9.1.sc
      have n9 : Now w9 := trivial
      have r9 := Ext.refl w9
      have z9 := hx9.1.size
      rcases iI with _|_|_|_|_|_|_|_|iI
      · have e := Option.some.inj ho
        subst e
        have a8 := hag.at 8 KR
        simp only [S5, ↓reduceIte, Nat.reduceEqDiff, initF, *] at a8
        clear hag hdep ho
        refine ⟨fun _ => ?_, fun h => absurd h (by decide)⟩
        refine relStep_off rfl ?_
        (repeat' first
    | with_reducible first | exact ⟨⟩ | (refine gB ?_; intros) | refine gT ?_ ?_
    | refine gs ?_
    | refine sx ?_)
      · have e := Option.some.inj ho
        subst e
        have a7 := hag.at 7 KR
        simp only [S5, ↓reduceIte, Nat.reduceEqDiff, initF, *] at a7
        clear hag hdep ho
        refine ⟨fun _ => ?_, fun h => absurd h (by decide)⟩
        refine relStep_off rfl ?_
        (repeat' first
    | with_reducible first | exact ⟨⟩ | (refine gB ?_; intros) | refine gT ?_ ?_
    | refine gs ?_
    | refine sx ?_)
      · have e := Option.some.inj ho
        subst e
        have a8 := hag.at 8 KR
        simp only [S5, ↓reduceIte, Nat.reduceEqDiff, initF, *] at a8
        clear hag hdep ho
        refine ⟨fun _ => ?_, fun h => absurd h (by decide)⟩
        refine relStep_off rfl ?_
        (repeat' first
    | with_reducible first | exact ⟨⟩ | (refine gB ?_; intros) | refine gT ?_ ?_
    | refine gs ?_
    | refine sx ?_)
      · have e := Option.some.inj ho
        subst e
        have d1 : (gF 39) = .slice (some ⟨b, 0, none⟩) n n := hdep ⟨1, .data⟩ (by simp) rfl _ _ rfl rfl
        have d2 : (gF 40) = .int .i64 (c : Nat) := hdep ⟨2, .data⟩ (by simp) rfl _ _ rfl rfl
        clear hag hdep ho
        refine ⟨fun _ => ?_, fun h => absurd h (by decide)⟩
        refine relStep_off rfl ?_
        (repeat' first
    | with_reducible first | exact ⟨⟩ | (refine gB ?_; intros) | refine gT ?_ ?_
    | refine gs ?_
    | refine sx ?_)
        refine slice_loR (by omega) (by omega) (by omega) ?_
        exact ⟨Ext.refl _, (by rw [Nat.mul_one])⟩
      · have e := Option.some.inj ho
        subst e
        have a7 := hag.at 7 KR
        simp only [S5, ↓reduceIte, Nat.reduceEqDiff, initF, *] at a7
        clear hag hdep ho
        refine ⟨fun _ => ?_, fun h => absurd h (by decide)⟩
        refine relStep_off rfl ?_
        (repeat' first
    | with_reducible first | exact ⟨⟩ | (refine gB ?_; intros) | refine gT ?_ ?_
    | refine gs ?_
    | refine sx ?_)
      · have e := Option.some.inj ho
        subst e
        have a8 := hag.at 8 KR
        simp only [S5, ↓reduceIte, Nat.reduceEqDiff, initF, *] at a8
        clear hag hdep ho
        refine ⟨fun _ => ?_, fun h => absurd h (by decide)⟩
        refine relStep_off rfl ?_
        (repeat' first
    | with_reducible first | exact ⟨⟩ | (refine gB ?_; intros) | refine gT ?_ ?_
    | refine gs ?_
    | refine sx ?_)
      · have e := Option.some.inj ho
        subst e
        have d4 : (gF 42) = .slice (some ⟨b, 0, none⟩) n n := hdep ⟨4, .data⟩ (by simp) rfl _ _ rfl rfl
        have d5 : (gF 43) = .int .i64 (c : Nat) := hdep ⟨5, .data⟩ (by simp) rfl _ _ rfl rfl
        clear hag hdep ho
        refine ⟨fun _ => ?_, fun h => absurd h (by decide)⟩
        refine relStep_off rfl ?_
        (repeat' first
    | with_reducible first | exact ⟨⟩ | (refine gB ?_; intros) | refine gT ?_ ?_
    | refine gs ?_
    | refine sx ?_)
        refine slice_hiR (by omega) ?_
        exact ⟨Ext.refl _, rfl⟩
      · have e := Option.some.inj ho
        subst e
        have d3 : (gF 41) = .slice (some ⟨b, c, none⟩) (n - c) (n - c) := hdep ⟨3, .data⟩ (by simp) rfl _ _ rfl rfl
        have d6 : (gF 44) = .slice (some ⟨b, 0, none⟩) c n := hdep ⟨6, .data⟩ (by simp) rfl _ _ rfl rfl
        clear hag hdep ho
        refine ⟨fun h => absurd rfl h, fun _ => ?_⟩
        refine relStep_off rfl ?_
        (repeat' first
    | with_reducible first | exact ⟨⟩ | (refine gB ?_; intros) | refine gT ?_ ?_
    | refine gs ?_
    | refine sx ?_)
        have x9 := hx9.2.1 (hq rfl)
        have hb9 : Blk w9 b 3 (rowM n c) := hp.out.ext x9
        refine copyB_kR (e := 3) (sz := 1) (by_ := 8) (cs := List.replicate (min c (n - c)) (.int .i64 (-1))) KR hb9 (rowM_src hb9) (by simp) (by rw [rowM_len (by omega)]; simp; omega) (fun u hu => (by rw [List.eq_of_mem_replicate hu]; rfl)) fun w10 n10 k10 s10 c10 => ?_
        rw [List.length_replicate, rowM_copy (by omega) rfl] at k10
        refine ⟨⟨hx9.1.trans_chg c10 (.inl rfl), fun e => (by cases e), fun _ => ?_⟩, rfl, fun j u _ h => h⟩
        rw [show min (c + c) n = c + min c (n - c) by omega]; exact k10
      · omega
    · intro g9 w9 hx9 hR hag
      have s9 := hx9.1.sc
      have n9 : Now w9 := trivial
      have r9 := Ext.refl w9
      have z9 := hx9.1.size
      have d0 : (g9 38) = .int .i64 (c : Nat) := hR 0 _ _ (by decide) rfl rfl
      have d7 : (g9 45) = .int .i64 ((min c (n - c) : Nat) : Int) := hR 7 _ _ (by decide) rfl rfl
      have a7 := hag.at 7 KR
      simp only [S5, ↓reduceIte, Nat.reduceEqDiff, initF, *] at a7
      clear hag hR
      simp only [List.drop_succ_cons, List.drop_zero]
      have hb9 := hx9.2.2 rfl
      have ew : IntKind.i64.wrap ((c : Int) + (min c (n - c) : Nat)) = ((min (c + c) n : Nat) : Int) := by
        rw [show (c : Int) + (min c (n - c) : Nat) = ((min (c + c) n : Nat) : Int) by omega, wrap_nat (by omega)]
      have hb9' : Hid (Blk w9 b 3 (rowM n (min (c + c) n))) := hb9
      clear hb9
      (repeat' first
    | with_reducible first | exact ⟨⟩ | (refine gB ?_; intros) | refine gT ?_ ?_
    | refine gs ?_
    | simp (maxDischargeDepth := 3) only [↓X, ↓Y, ↓Q, S1, ↓reduceIte, Nat.reduceEqDiff, Nat.reduceAdd, Int.reduceLT, Int.reduceLE, Int.reduceNeg, Int.reduceBEq, Int.reduceBNe, Int.reduceEq, Nat.reduceLeDiff, Nat.reduceMul, Nat.reduceLT, *, ew]
    | simp (singlePass := true) (maxDischargeDepth := 99) only [*, S2, Nat.reduceLT, ew])
      refine next_b hk hlt ?_ FR
      (repeat' first
    | with_reducible first | exact ⟨⟩ | (refine gB ?_; intros) | refine gT ?_ ?_
    | refine gs ?_
    | refine sx ?_)
      all_goals (rw [h2s.out]; exact ⟨rfl, hb9'⟩)
  · rintro g wk nk sk ck hbk ⟨hi, hf, hp⟩
    simp (maxDischargeDepth := 3) only [U, ↓reduceIte, Nat.reduceEqDiff, *] at hf
    rw [hdf] at hi hp
    (repeat' first
    | with_reducible first | exact ⟨⟩ | (refine gB ?_; intros) | refine gT ?_ ?_
    | refine gs ?_
    | refine sx ?_)
    exact ⟨_, rfl, by rw [← rowM_full]; exact hp, hle⟩
end
end Go.Proofs.YtopfddchckdhgaaGreat
