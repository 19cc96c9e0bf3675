/- What the statements on layer 10 share: same, own, sample; the library's Equal and Clone of ints. -/
import Derived.Test.YteeaccnklkcchaaDoorRed20
import Derived.Test.YteeaccnklkcchaaDoorRel
import Derived.Test.YteeaccnklkcchaaDoorSpec10
namespace Go.Proofs.YteeaccnklkcchaaDoor
set_option linter.unusedSimpArgs false
set_option linter.unusedVariables false
open Go Go.RowKit
set_option maxRecDepth 100000
set_option linter.unusedSectionVars false
set_option maxHeartbeats 2000000
theorem dec_not10 {p : Prop} [Decidable p] {w : World} {A B : World → Prop} : forkX (!decide p) w A B = forkP p w B A := by
  by_cases h : p <;> simp [forkX, forkP, h]
theorem nil_of10 {α : Type} {w : World} {B : Nat} {f : α → Value} {k : Option Nat} {sz : Nat} {v : Value} {l : List α} (h : Sl w B k sz v (l.map f)) (hn : nilB v = true) : l = [] := by
  have h1 := h.len
  have h2 := h.wf
  match v, hn, h1, h2 with
  | .slice none n c, _, h1, h2 =>
    obtain rfl : n = 0 := h2
    rw [List.length_map] at h1
    exact List.eq_nil_of_length_eq_zero h1.symm
theorem Own.ofBlk10 {w : World} {B e sz n : Nat} {b : Nat} {cs : List (List Value)} (hn : n = cs.length) (h : Blk w b e cs.flatten) (hc : ∀ c ∈ cs, c.length = sz) (hB : B ≤ b) (hs : cs.length ≤ 140737488355328) : Own w B e sz (.slice (some ⟨b, 0, none⟩) n n) cs := by
  subst hn
  exact Own.ofBlk h hc hB hs
section
variable {w : World} {B B' : Nat} {av av' : Value} {vs vs' : List Value}
theorem slicesEqualIn {v u : Value} {a b : List Int} (hB : B ≤ w.heap.size) (hB' : B' ≤ w.heap.size) (ha : Sl w B none 1 v (a.map intV)) (hb : Sl w B' none 1 u (b.map intV)) : Ret Tryd.prog 25 #[v, u] w (.bool (decide (a = b))) := by
  have hn : Now w := trivial
  have hx : Ext w w := Ext.refl w
  have ha' := ha.k hB
  have hb' := hb.k hB'
  (refine callsV_of Tryd.func25 rfl KR KR ?_; rw [Tryd.results25])
  (repeat' first
    | ((with_reducible refine at_row ?_); refine row1_a fun _ _ _ _ _ _ _ => ?_)
    | with_reducible first | (first | apply alloc_k | apply row_k); intro _ _ _ _ _ _ | (first | apply fork | apply forkp) <;> intro _ | refine forke (fun _ => ?_) fun _ _ => ?_ | refine tail_k fun _ _ _ => ?_ | refine ext_k fun _ _ _ => ?_ | refine need_a ?_ | refine st_agg KR rfl ON fun _ _ _ _ => ?_ | refine wpd_q_a ?_
    | simp (maxDischargeDepth := 3) only [↓X, ↓Y, ↓Q, S1, ↓reduceIte, Nat.reduceEqDiff, Nat.reduceAdd, Int.reduceLT, Int.reduceLE, Int.reduceNeg, Int.reduceBEq, Int.reduceBNe, Int.reduceEq, Nat.reduceLeDiff, Nat.reduceMul, Nat.reduceLT, *]
    | simp (singlePass := true) (maxDischargeDepth := 99) only [*, S2, Nat.reduceLT])
  · rename_i h
    have hl : Hid (a.length = b.length) := h
    clear h
    refine loop_k (b.length) (fun g0 k g _ => g 13 = .int .i64 k ∧ (g 0 = g0 0 ∧ g 1 = g0 1 ∧ g 12 = g0 12) ∧ Hid (a.take k = b.take k)) KR (hb.max_) ?_ ?_ ?_
    · (repeat' first
    | ((with_reducible refine at_row ?_); refine row1_a fun _ _ _ _ _ _ _ => ?_)
    | with_reducible first | (first | apply alloc_k | apply row_k); intro _ _ _ _ _ _ | (first | apply fork | apply forkp) <;> intro _ | refine forke (fun _ => ?_) fun _ _ => ?_ | refine tail_k fun _ _ _ => ?_ | refine ext_k fun _ _ _ => ?_ | refine need_a ?_ | refine st_agg KR rfl ON fun _ _ _ _ => ?_ | refine wpd_q_a ?_
    | simp (maxDischargeDepth := 3) only [↓X, ↓Y, ↓Q, S1, ↓reduceIte, Nat.reduceEqDiff, Nat.reduceAdd, Int.reduceLT, Int.reduceLE, Int.reduceNeg, Int.reduceBEq, Int.reduceBNe, Int.reduceEq, Nat.reduceLeDiff, Nat.reduceMul, Nat.reduceLT, *, List.take_zero, List.all_nil, List.any_nil]
    | simp (singlePass := true) (maxDischargeDepth := 99) only [*, S2, Nat.reduceLT, List.take_zero, List.all_nil, List.any_nil])
      exact trivial
    · rintro k m g wk hk hlt _ _ _ hw ⟨hi, hf, hp⟩
      simp (maxDischargeDepth := 3) only [U, ↓reduceIte, Nat.reduceEqDiff, *] at hf
      have hb2 : k < a.length := by have := hl.out; omega
      (repeat' first
    | ((with_reducible refine at_row ?_); refine row1_a fun _ _ _ _ _ _ _ => ?_)
    | with_reducible first | (first | apply alloc_k | apply row_k); intro _ _ _ _ _ _ | (first | apply fork | apply forkp) <;> intro _ | refine forke (fun _ => ?_) fun _ _ => ?_ | refine tail_k fun _ _ _ => ?_ | refine ext_k fun _ _ _ => ?_ | refine need_a ?_ | refine st_agg KR rfl ON fun _ _ _ _ => ?_ | refine wpd_q_a ?_
    | simp (maxDischargeDepth := 3) only [↓X, ↓Y, ↓Q, S1, ↓reduceIte, Nat.reduceEqDiff, Nat.reduceAdd, Int.reduceLT, Int.reduceLE, Int.reduceNeg, Int.reduceBEq, Int.reduceBNe, Int.reduceEq, Nat.reduceLeDiff, Nat.reduceMul, Nat.reduceLT, *, intV, dec_not10]
    | simp (singlePass := true) (maxDischargeDepth := 99) only [*, S2, Nat.reduceLT, intV, dec_not10])
      · rename_i h
        refine next_k hk hlt ?_ FR
        (repeat' first
    | ((with_reducible refine at_row ?_); refine row1_a fun _ _ _ _ _ _ _ => ?_)
    | with_reducible first | (first | apply alloc_k | apply row_k); intro _ _ _ _ _ _ | (first | apply fork | apply forkp) <;> intro _ | refine forke (fun _ => ?_) fun _ _ => ?_ | refine tail_k fun _ _ _ => ?_ | refine ext_k fun _ _ _ => ?_ | refine need_a ?_ | refine st_agg KR rfl ON fun _ _ _ _ => ?_ | refine wpd_q_a ?_
    | simp (maxDischargeDepth := 3) only [↓X, ↓Y, ↓Q, S1, ↓reduceIte, Nat.reduceEqDiff, Nat.reduceAdd, Int.reduceLT, Int.reduceLE, Int.reduceNeg, Int.reduceBEq, Int.reduceBNe, Int.reduceEq, Nat.reduceLeDiff, Nat.reduceMul, Nat.reduceLT, *]
    | simp (singlePass := true) (maxDischargeDepth := 99) only [*, S2, Nat.reduceLT])
        exact take_next hp.out hb2 hlt h
      · rename_i h
        have : ¬ a = b := by rintro rfl; exact h rfl
        simp [this]
    · rintro g wk _ _ _ ⟨hi, hf, hp⟩
      simp (maxDischargeDepth := 3) only [U, ↓reduceIte, Nat.reduceEqDiff, *] at hf
      (repeat' first
    | ((with_reducible refine at_row ?_); refine row1_a fun _ _ _ _ _ _ _ => ?_)
    | with_reducible first | (first | apply alloc_k | apply row_k); intro _ _ _ _ _ _ | (first | apply fork | apply forkp) <;> intro _ | refine forke (fun _ => ?_) fun _ _ => ?_ | refine tail_k fun _ _ _ => ?_ | refine ext_k fun _ _ _ => ?_ | refine need_a ?_ | refine st_agg KR rfl ON fun _ _ _ _ => ?_ | refine wpd_q_a ?_
    | simp (maxDischargeDepth := 3) only [↓X, ↓Y, ↓Q, S1, ↓reduceIte, Nat.reduceEqDiff, Nat.reduceAdd, Int.reduceLT, Int.reduceLE, Int.reduceNeg, Int.reduceBEq, Int.reduceBNe, Int.reduceEq, Nat.reduceLeDiff, Nat.reduceMul, Nat.reduceLT, *]
    | simp (singlePass := true) (maxDischargeDepth := 99) only [*, S2, Nat.reduceLT])
      have hp := hp.out
      rw [← hl.out] at hp
      simp [take_full hp hl.out]
  · rename_i h
    have : ¬ a = b := by rintro rfl; exact h rfl
    simp [this]
theorem equalFuncLL {a b : List (List Int)} (hB : B ≤ w.heap.size) (hB' : B' ≤ w.heap.size) (ha : LLR w B av vs a) (hb : LLR w B' av' vs' b) : Ret Tryd.prog 58 #[av, av', .func (.func 25) #[] #[]] w (.bool (decide (a = b))) := by
  have hn : Now w := trivial
  have hx : Ext w w := Ext.refl w
  have hma := hb.max_
  have hga := fun w' (h : Bl B w w') (k : Nat) (hk : k < a.length) => (ha.blz h).get hk
  have hgb := fun w' (h : Bl B' w w') (k : Nat) (hk : k < b.length) => (hb.blz h).get hk
  replace hga : Hid _ := hga
  replace hgb : Hid _ := hgb
  have hbw : Bl B w w := Bl.refl hB
  have hbw' : Bl B' w w := Bl.refl hB'
  have hla := ha.len_
  have hlb := hb.len_
  have hcal : callable Tryd.prog 25 = true := by kernel_rfl
  (refine callsV_of Tryd.func58 rfl KR KR ?_; rw [Tryd.results58])
  (repeat' first
    | ((with_reducible refine at_row ?_); refine row1_a fun _ _ _ _ _ _ _ => ?_)
    | with_reducible first | (first | apply alloc_k | apply row_k); intro _ _ _ _ _ _ | (first | apply fork | apply forkp) <;> intro _ | refine forke (fun _ => ?_) fun _ _ => ?_ | refine tail_k fun _ _ _ => ?_ | refine ext_k fun _ _ _ => ?_ | refine need_a ?_ | refine st_agg KR rfl ON fun _ _ _ _ => ?_ | refine wpd_q_a ?_
    | simp (maxDischargeDepth := 3) only [↓X, ↓Y, ↓Q, S1, ↓reduceIte, Nat.reduceEqDiff, Nat.reduceAdd, Int.reduceLT, Int.reduceLE, Int.reduceNeg, Int.reduceBEq, Int.reduceBNe, Int.reduceEq, Nat.reduceLeDiff, Nat.reduceMul, Nat.reduceLT, *]
    | simp (singlePass := true) (maxDischargeDepth := 99) only [*, S2, Nat.reduceLT])
  · rename_i h
    have hl : Hid (a.length = b.length) := h
    clear h
    refine loop_k (b.length) (fun g0 k g _ => g 17 = .int .i64 k ∧ (g 1 = g0 1 ∧ g 2 = g0 2 ∧ g 15 = g0 15 ∧ g 16 = g0 16) ∧ Hid (a.take k = b.take k)) KR (hma) ?_ ?_ ?_
    · (repeat' first
    | ((with_reducible refine at_row ?_); refine row1_a fun _ _ _ _ _ _ _ => ?_)
    | with_reducible first | (first | apply alloc_k | apply row_k); intro _ _ _ _ _ _ | (first | apply fork | apply forkp) <;> intro _ | refine forke (fun _ => ?_) fun _ _ => ?_ | refine tail_k fun _ _ _ => ?_ | refine ext_k fun _ _ _ => ?_ | refine need_a ?_ | refine st_agg KR rfl ON fun _ _ _ _ => ?_ | refine wpd_q_a ?_
    | simp (maxDischargeDepth := 3) only [↓X, ↓Y, ↓Q, S1, ↓reduceIte, Nat.reduceEqDiff, Nat.reduceAdd, Int.reduceLT, Int.reduceLE, Int.reduceNeg, Int.reduceBEq, Int.reduceBNe, Int.reduceEq, Nat.reduceLeDiff, Nat.reduceMul, Nat.reduceLT, *, List.take_zero, List.all_nil, List.any_nil]
    | simp (singlePass := true) (maxDischargeDepth := 99) only [*, S2, Nat.reduceLT, List.take_zero, List.all_nil, List.any_nil])
      exact trivial
    · rintro k m g wk hk hlt _ _ _ hw ⟨hi, hf, hp⟩
      simp (maxDischargeDepth := 3) only [U, ↓reduceIte, Nat.reduceEqDiff, *] at hf
      have hb2 : k < a.length := by have := hl.out; omega
      obtain ⟨z1, hz1, hs1⟩ := hga.out wk FR k hb2
      obtain ⟨z2, hz2, hs2⟩ := hgb.out wk FR k hlt
      (repeat' first
    | ((with_reducible refine at_row ?_); refine row1_a fun _ _ _ _ _ _ _ => ?_)
    | with_reducible first | (first | apply alloc_k | apply row_k); intro _ _ _ _ _ _ | (first | apply fork | apply forkp) <;> intro _ | refine forke (fun _ => ?_) fun _ _ => ?_ | refine tail_k fun _ _ _ => ?_ | refine ext_k fun _ _ _ => ?_ | refine need_a ?_ | refine st_agg KR rfl ON fun _ _ _ _ => ?_ | refine wpd_q_a ?_
    | simp (maxDischargeDepth := 3) only [↓X, ↓Y, ↓Q, S1, ↓reduceIte, Nat.reduceEqDiff, Nat.reduceAdd, Int.reduceLT, Int.reduceLE, Int.reduceNeg, Int.reduceBEq, Int.reduceBNe, Int.reduceEq, Nat.reduceLeDiff, Nat.reduceMul, Nat.reduceLT, *]
    | simp (singlePass := true) (maxDischargeDepth := 99) only [*, S2, Nat.reduceLT])
      refine ret_k (slicesEqualIn FR FR hs1 hs2) fun w2 n2 s2 => ?_
      by_cases he : a[k] = b[k]
      · (repeat' first
    | ((with_reducible refine at_row ?_); refine row1_a fun _ _ _ _ _ _ _ => ?_)
    | with_reducible first | (first | apply alloc_k | apply row_k); intro _ _ _ _ _ _ | (first | apply fork | apply forkp) <;> intro _ | refine forke (fun _ => ?_) fun _ _ => ?_ | refine tail_k fun _ _ _ => ?_ | refine ext_k fun _ _ _ => ?_ | refine need_a ?_ | refine st_agg KR rfl ON fun _ _ _ _ => ?_ | refine wpd_q_a ?_
    | simp (maxDischargeDepth := 3) only [↓X, ↓Y, ↓Q, S1, ↓reduceIte, Nat.reduceEqDiff, Nat.reduceAdd, Int.reduceLT, Int.reduceLE, Int.reduceNeg, Int.reduceBEq, Int.reduceBNe, Int.reduceEq, Nat.reduceLeDiff, Nat.reduceMul, Nat.reduceLT, *, he]
    | simp (singlePass := true) (maxDischargeDepth := 99) only [*, S2, Nat.reduceLT, he])
        refine next_k hk hlt ?_ FR
        (repeat' first
    | ((with_reducible refine at_row ?_); refine row1_a fun _ _ _ _ _ _ _ => ?_)
    | with_reducible first | (first | apply alloc_k | apply row_k); intro _ _ _ _ _ _ | (first | apply fork | apply forkp) <;> intro _ | refine forke (fun _ => ?_) fun _ _ => ?_ | refine tail_k fun _ _ _ => ?_ | refine ext_k fun _ _ _ => ?_ | refine need_a ?_ | refine st_agg KR rfl ON fun _ _ _ _ => ?_ | refine wpd_q_a ?_
    | simp (maxDischargeDepth := 3) only [↓X, ↓Y, ↓Q, S1, ↓reduceIte, Nat.reduceEqDiff, Nat.reduceAdd, Int.reduceLT, Int.reduceLE, Int.reduceNeg, Int.reduceBEq, Int.reduceBNe, Int.reduceEq, Nat.reduceLeDiff, Nat.reduceMul, Nat.reduceLT, *]
    | simp (singlePass := true) (maxDischargeDepth := 99) only [*, S2, Nat.reduceLT])
        exact take_next hp.out hb2 hlt he
      · (repeat' first
    | ((with_reducible refine at_row ?_); refine row1_a fun _ _ _ _ _ _ _ => ?_)
    | with_reducible first | (first | apply alloc_k | apply row_k); intro _ _ _ _ _ _ | (first | apply fork | apply forkp) <;> intro _ | refine forke (fun _ => ?_) fun _ _ => ?_ | refine tail_k fun _ _ _ => ?_ | refine ext_k fun _ _ _ => ?_ | refine need_a ?_ | refine st_agg KR rfl ON fun _ _ _ _ => ?_ | refine wpd_q_a ?_
    | simp (maxDischargeDepth := 3) only [↓X, ↓Y, ↓Q, S1, ↓reduceIte, Nat.reduceEqDiff, Nat.reduceAdd, Int.reduceLT, Int.reduceLE, Int.reduceNeg, Int.reduceBEq, Int.reduceBNe, Int.reduceEq, Nat.reduceLeDiff, Nat.reduceMul, Nat.reduceLT, *, he]
    | simp (singlePass := true) (maxDischargeDepth := 99) only [*, S2, Nat.reduceLT, he])
        have : ¬ a = b := by rintro rfl; exact he rfl
        simp [this]
    · rintro g wk _ _ _ ⟨hi, hf, hp⟩
      simp (maxDischargeDepth := 3) only [U, ↓reduceIte, Nat.reduceEqDiff, *] at hf
      (repeat' first
    | ((with_reducible refine at_row ?_); refine row1_a fun _ _ _ _ _ _ _ => ?_)
    | with_reducible first | (first | apply alloc_k | apply row_k); intro _ _ _ _ _ _ | (first | apply fork | apply forkp) <;> intro _ | refine forke (fun _ => ?_) fun _ _ => ?_ | refine tail_k fun _ _ _ => ?_ | refine ext_k fun _ _ _ => ?_ | refine need_a ?_ | refine st_agg KR rfl ON fun _ _ _ _ => ?_ | refine wpd_q_a ?_
    | simp (maxDischargeDepth := 3) only [↓X, ↓Y, ↓Q, S1, ↓reduceIte, Nat.reduceEqDiff, Nat.reduceAdd, Int.reduceLT, Int.reduceLE, Int.reduceNeg, Int.reduceBEq, Int.reduceBNe, Int.reduceEq, Nat.reduceLeDiff, Nat.reduceMul, Nat.reduceLT, *]
    | simp (singlePass := true) (maxDischargeDepth := 99) only [*, S2, Nat.reduceLT])
      have hp := hp.out
      rw [← hl.out] at hp
      simp [take_full hp hl.out]
  · rename_i h
    have : ¬ a = b := by rintro rfl; exact h rfl
    simp [this]
theorem law10same {a b : List (List Int)} (hB : B ≤ w.heap.size) (hB' : B' ≤ w.heap.size) (ha : LLR w B av vs a) (hb : LLR w B' av' vs' b) : Ret Tryd.prog 30 #[av, av'] w (.bool (decide (a = b))) := by
  have hn : Now w := trivial
  have hx : Ext w w := Ext.refl w
  have hA := fun w' (h : Bl B w w') => ha.blz h
  have hC := fun w' (h : Bl B' w w') => hb.blz h
  replace hA : Hid _ := hA
  replace hC : Hid _ := hC
  have bA : Bl B w w := Bl.refl hB
  have bC : Bl B' w w := Bl.refl hB'
  have hma := ha.len_
  have hmb := hb.len_
  (refine callsV_of Tryd.func30 rfl KR KR ?_; rw [Tryd.results30])
  (repeat' first
    | ((with_reducible refine at_row ?_); refine row1_a fun _ _ _ _ _ _ _ => ?_)
    | with_reducible first | (first | apply alloc_k | apply row_k); intro _ _ _ _ _ _ | (first | apply fork | apply forkp) <;> intro _ | refine forke (fun _ => ?_) fun _ _ => ?_ | refine tail_k fun _ _ _ => ?_ | refine ext_k fun _ _ _ => ?_ | refine need_a ?_ | refine st_agg KR rfl ON fun _ _ _ _ => ?_ | refine wpd_q_a ?_
    | ((with_reducible refine at_f 58 ?_); refine ret_k (equalFuncLL (B := B) (B' := B') FR FR (hA.out _ FR) (hC.out _ FR)) fun _ _ _ => ?_)
    | simp (maxDischargeDepth := 3) only [↓X, ↓Y, ↓Q, S1, ↓reduceIte, Nat.reduceEqDiff, Nat.reduceAdd, Int.reduceLT, Int.reduceLE, Int.reduceNeg, Int.reduceBEq, Int.reduceBNe, Int.reduceEq, Nat.reduceLeDiff, Nat.reduceMul, Nat.reduceLT, *]
    | simp (singlePass := true) (maxDischargeDepth := 99) only [*, S2, Nat.reduceLT])
end
section
variable {w : World} {B sz e by_ : Nat} {k : Option Nat} {v : Value} {xs : List Value}
theorem elemAt_hi {m i : Nat} (hv : isSl v) : elemAt (cutV sz v 0 m (capN v)) sz i = elemAt v sz i := by
  cases v with
  | slice a n c =>
    cases a with
    | none => simp [cutV, elemAt]
    | some a => by_cases h : c = 0 <;> simp [cutV, elemAt, capN, h, Addr.add]
  | _ => exact hv.elim
theorem Sl.hi (h : Sl w B k sz v xs) {m : Nat} (hm : m ≤ xs.length) : Sl w B k sz (cutV sz v 0 m (capN v)) (xs.take m) := by
  have hs := h.sl
  have hlen := h.len
  have hcap := h.cap
  have hmax := h.max
  have hl : (xs.take m).length = m := by rw [List.length_take]; omega
  have hwf := h.wf
  have hlt := h.lt
  have hcut : SlWf (cutV sz v 0 m (capN v)) ∧ lenN (cutV sz v 0 m (capN v)) = m ∧ capN (cutV sz v 0 m (capN v)) = capN v ∧ blockOf (cutV sz v 0 m (capN v)) = blockOf v := by
    cases v with
    | slice a n c =>
      cases a with
      | none =>
        simp only [SlWf] at hwf
        simp only [lenN] at hlen
        have hm0 : m = 0 := by omega
        simp [cutV, SlWf, lenN, capN, blockOf, hm0]
      | some a => by_cases h0 : c = 0 <;> simp [cutV, SlWf, lenN, capN, blockOf, h0, Addr.add]
    | _ => exact hs.elim
  obtain ⟨c1, c2, c3, c4⟩ := hcut
  refine ⟨c1, by rw [c2, hl], by rw [c2, c3]; omega, by rw [c3]; exact hmax, fun b hb h0 => hlt b (by rw [← c4]; exact hb) (by omega), fun i hi => ?_⟩
  rw [elemAt_hi hs, h.rd i (by omega)]
  simp
theorem sl_hi (h : Sl w B k sz v xs) {m : Nat} (hm : m ≤ xs.length) {f : Value → World → Prop} (hf : f (cutV sz v 0 m (capN v)) w) : sliceX (some (e, sz, by_)) v none (some (.int .i64 (m : Nat))) none w f := by
  simp only [sliceX, Int.toNat_natCast]
  have h1 := h.cap
  have h2 := h.len
  refine need ⟨h.sl, by omega, by omega⟩ hf
end
/-- A row of the call's own whose elements are rows of its own. -/
def OwnLI (w : World) (B : Nat) (v : Value) (ll : List (List Int)) : Prop := ∃ us : List Value, us.length = ll.length ∧ Own w B 25 1 v (us.map fun u => [u]) ∧ ∀ i (h : i < us.length), Own w B 3 1 us[i] ((ll.getD i []).map intC)
section
variable {w w' : World} {B B' b : Nat} {v : Value} {ll : List (List Int)}
theorem OwnLI.nil (w : World) (B : Nat) : OwnLI w B (.slice none 0 0) [] := ⟨[], rfl, Own.nil _ _ _ _, fun i h => absurd h (by simp)⟩
theorem OwnLI.ext (h : OwnLI w B v ll) (hx : Ext w w') : OwnLI w' B v ll := by
  obtain ⟨us, h1, h2, h3⟩ := h
  exact ⟨us, h1, h2.ext hx, fun i hi => (h3 i hi).ext hx⟩
theorem OwnLI.more (h : OwnLI w B v ll) (hB : B' ≤ B) : OwnLI w B' v ll := by
  obtain ⟨us, h1, h2, h3⟩ := h
  exact ⟨us, h1, h2.more hB, fun i hi => (h3 i hi).more hB⟩
theorem OwnLI.one (h : OwnLI w B v ll) : v.oneCell' = true := by
  obtain ⟨us, h1, h2, h3⟩ := h
  exact h2.one
theorem OwnLI.r (h : OwnLI w B v ll) : ∃ us, LLR w w.heap.size v us ll := by
  obtain ⟨us, h1, h2, h3⟩ := h
  refine ⟨us, by have := h2.sl1 (f := id); rwa [List.map_id] at this, h1, fun i hi => ?_⟩
  have hu : i < us.length := by omega
  refine ⟨us[i], List.getElem?_eq_getElem hu, ?_⟩
  have := (h3 i hu).sl1 (f := intV)
  simpa [List.getD_eq_getElem?_getD, List.getElem?_eq_getElem hi] using this
/-- One more row behind the others. -/
theorem appLI {cp : Nat} {s u : Value} {l : List Int} {k : Value → World → Prop} (hown : OwnLI w B s ll) (hu : Own w B 3 1 u (l.map intC)) (hb : Blk w b 25 [u]) (hbound : ll.length < 1000000000000) (hB : B ≤ w.heap.size)
    (h : ∀ v' w', Now w' → Sa B w w' → OwnLI w' B v' (ll ++ [l]) → k v' w') : appX Tryd.prog 22 22 22 s (.slice (some ⟨b, 0, none⟩) 1 cp) w k := by
  obtain ⟨us, h1, h2, h3⟩ := hown
  refine append_row (e := 25) (sz := 1) (by_ := 24) (z := .slice none 0 0) (ns := [[u]]) KR KR rfl (by decide) h2 (by simpa using hb) (by simp) (by simp [hu.one]) rfl ?_ hB fun v' w' ho hg hbl hd => ?_
  · simp only [List.length_map, List.length_cons, List.length_nil, Nat.zero_add]
    have : (us.length + 1) * (24 + 1) ≤ 1000000000000 * 25 := Nat.mul_le_mul (by omega) (Nat.le_refl _)
    omega
  · have keep : ∀ {x : Value} {cs : List (List Value)}, Own w B 3 1 x cs → Own w' B 3 1 x cs := fun {x cs} hx => hx.keep fun c hc => hg.block c (hx.lt c hc).2 fun e => by
      rcases h2.1.2 with ⟨rfl, _⟩ | ⟨g, cap, cur, rfl, hbg, hgc, _⟩
      · simp [Value.ownBlock] at e
      · have hcg : c = g := by simpa [Value.ownBlock] using e
        subst hcg
        rcases hx.1.2 with ⟨rfl, _⟩ | ⟨g', cap', cur', rfl, _, hgc', _⟩
        · simp [Value.ownBlock] at hc
        · obtain rfl : g' = c := Option.some.inj hc
          have := hgc.symm.trans hgc'
          simp at this
    refine h v' w' trivial (sa_of hbl) ⟨us ++ [u], by simp [h1], by simpa using ho, fun i hi => ?_⟩
    by_cases hlt : i < us.length
    · rw [List.getElem_append_left hlt]
      have hil : i < ll.length := by omega
      have := keep (h3 i hlt)
      simpa [List.getD_eq_getElem?_getD, List.getElem?_append_left hil] using this
    · have hie : i = us.length := by simp at hi; omega
      subst hie
      rw [List.getElem_append_right (Nat.le_refl _)]
      have := keep hu
      simpa [List.getD_eq_getElem?_getD, h1] using this
theorem sl_cells1 {α : Type} {w : World} {B n c : Nat} {a : Addr} {l : List α} {f : α → Value} (h : Sl w B none 1 (.slice (some a) n c) (l.map f)) : ∀ j u, (l.map f)[j]? = some u → w.cell? (a.add j) = some u := by
  intro j u hj
  obtain ⟨hl, he⟩ := List.getElem?_eq_some_iff.1 hj
  have h1 := h.rd j hl
  simp only [elemAt, rdv, rd, Nat.mul_one] at h1
  rw [h1, he]
theorem flat_one {α : Type} {f : α → Value} (l : List α) : (l.map fun x => [f x]).flatten = l.map f := by
  induction l with
  | nil => rfl
  | cons a r ih => simp only [List.map_cons, List.flatten_cons, ih]; rfl
/-- append of a whole slice of one-cell elements to a row of the call's own. -/
theorem appendAll1_k {α : Type} {B' e by_ t ty : Nat} {s v z : Value} {c : α → Value} {l r : List α} {k : Value → World → Prop} (hsl : slOf Tryd.prog t = some (e, 1, by_)) (hz : zeroElt Tryd.prog t = some z) (hzs : (cellsL z).length = 1) (hby : by_ ≤ 64)
    (hown : Own w B e 1 s (l.map fun x => [c x])) (hv : Sl w B' none 1 v (r.map c)) (h1 : ∀ x, (c x).oneCell' = true) (hbound : l.length + r.length < 1000000000000) (hB : B ≤ w.heap.size)
    (h : ∀ v' w', Now w' → Sa B w w' → Own w' B e 1 v' ((l ++ r).map fun x => [c x]) → k v' w') : appX Tryd.prog t t ty s v w k := by
  obtain ⟨i, hu, hi, hs, hby'⟩ := slOf_parts hsl
  have hz' : i.zero = some z := by
    unfold zeroElt at hz
    rw [hsl] at hz
    simpa [zeroOf, hi] using hz
  have hcells : z.cells.size = 1 := by rw [← hzs, ← cellsL_eq]; simp
  have hlen : lenN v = r.length := by simpa using hv.len
  have hb : (l.length + r.length) * by_ ≤ 1000000000000 * 64 := Nat.mul_le_mul (by omega) hby
  have hwf := hv.wf
  match v, hv, hlen, hwf with
  | .slice (some a) m cc, hv, hlen, _ =>
    obtain rfl : m = r.length := hlen
    obtain ⟨v', w', hr, h2, h3, _, h5⟩ := run_append_own_at (P := Tryd.prog) w B t ty e i z 1 by_ hu hi hz' hs hby' hcells (by decide) s (l.map fun x => [c x]).length (l.map fun x => [c x]).flatten hown.1 a r.length cc (r.map c) (by rw [List.length_map, Nat.mul_one])
      (sl_cells1 hv) (fun u hu => by obtain ⟨x, _, rfl⟩ := List.mem_map.1 hu; exact h1 x) (by simp only [maxLen, List.length_map]; omega) (by rw [List.length_map]; omega) hB
    refine runsV_ok hr (h v' w' trivial (sa_of (grown_below h3 (fun k hk => (hown.lt k hk).1) hB)) ⟨by rw [flat_one] at h2 ⊢; simpa using h2, fun x hx => ?_, by simp only [List.length_map, List.length_append]; omega⟩)
    obtain ⟨y, _, rfl⟩ := List.mem_map.1 hx
    rfl
  | .slice none m cc, hv, hlen, hwf =>
    obtain rfl : m = 0 := hwf
    have hr0 : r = [] := List.eq_nil_of_length_eq_zero hlen.symm
    subst hr0
    have hr : (Builtin.append_ #[t, t] ty #[s, .slice none 0 cc]).run Tryd.prog w = .ok s w := by
      rcases hown.1.2 with ⟨rfl, _⟩ | ⟨g, cap, cur, rfl, _, _, hnc, _⟩
      · simp [Builtin.append_, run_underlying hu, sizeOf, typeInfo, hi, Builtin.lenOf, Builtin.firstCells]
      · rw [List.length_map] at hnc
        simp [Builtin.append_, run_underlying hu, sizeOf, typeInfo, hi, Builtin.lenOf, Builtin.firstCells, hnc, storeCells]
    exact runsV_ok hr (h s w trivial ⟨fun _ _ k _ => k, fun _ _ k _ => k, fun _ k _ => k, fun _ k => k, fun _ k => k, fun _ _ k _ => k, fun _ _ k _ => k⟩ (by simpa using hown))
theorem slicesCloneI {l : List Int} (hB : B ≤ w.heap.size) (hv : Sl w B none 1 v (l.map intV)) (hlen : l.length ≤ 1000000) : CallsV Tryd.prog 37 #[v] w fun v w' => Ext w w' ∧ Own w' w.heap.size 3 1 v (l.map intC) := by
  have hn : Now w := trivial
  have hx : Ext w w := Ext.refl w
  have hv' := hv.k hB
  (refine callsV_of Tryd.func37 rfl KR KR ?_; rw [Tryd.results37])
  (repeat' first
    | ((with_reducible refine at_row ?_); refine row1_a fun _ _ _ _ _ _ _ => ?_)
    | with_reducible first | (first | apply alloc_k | apply row_k); intro _ _ _ _ _ _ | (first | apply fork | apply forkp) <;> intro _ | refine forke (fun _ => ?_) fun _ _ => ?_ | refine tail_k fun _ _ _ => ?_ | refine ext_k fun _ _ _ => ?_ | refine need_a ?_ | refine st_agg KR rfl ON fun _ _ _ _ => ?_ | refine wpd_q_a ?_
    | simp (maxDischargeDepth := 3) only [↓X, ↓Y, ↓Q, S1, ↓reduceIte, Nat.reduceEqDiff, Nat.reduceAdd, Int.reduceLT, Int.reduceLE, Int.reduceNeg, Int.reduceBEq, Int.reduceBNe, Int.reduceEq, Nat.reduceLeDiff, Nat.reduceMul, Nat.reduceLT, *]
    | simp (singlePass := true) (maxDischargeDepth := 99) only [*, S2, Nat.reduceLT])
  · rw [nil_of10 hv (by assumption)]
    exact Own.nil _ _ _ _
  · rename_i w1 n1 k1 s1 nw1 sl1
    refine appendAll1_k (e := 3) (by_ := 8) (z := .int .i64 0) (B := w.heap.size) (l := ([] : List Int)) (r := l) (c := intV) KR KR rfl (by decide) (Own.ofBlk10 (by simp) (k1.2.1 _ FR) (by simp) FR (by simp)) (hv'.2.2.2.2.2.2.1 _ FR) (fun _ => rfl) (by simp; omega) FR fun v2 w2 n2 s2 hown => ?_
    have o2 := hown.o
    (repeat' first
    | ((with_reducible refine at_row ?_); refine row1_a fun _ _ _ _ _ _ _ => ?_)
    | with_reducible first | (first | apply alloc_k | apply row_k); intro _ _ _ _ _ _ | (first | apply fork | apply forkp) <;> intro _ | refine forke (fun _ => ?_) fun _ _ => ?_ | refine tail_k fun _ _ _ => ?_ | refine ext_k fun _ _ _ => ?_ | refine need_a ?_ | refine st_agg KR rfl ON fun _ _ _ _ => ?_ | refine wpd_q_a ?_
    | simp (maxDischargeDepth := 3) only [↓X, ↓Y, ↓Q, S1, ↓reduceIte, Nat.reduceEqDiff, Nat.reduceAdd, Int.reduceLT, Int.reduceLE, Int.reduceNeg, Int.reduceBEq, Int.reduceBNe, Int.reduceEq, Nat.reduceLeDiff, Nat.reduceMul, Nat.reduceLT, *]
    | simp (singlePass := true) (maxDischargeDepth := 99) only [*, S2, Nat.reduceLT])
    exact o2.1 _ FR
end
end Go.Proofs.YteeaccnklkcchaaDoor
/- What the statements on layer 10 share: own, sample. -/
namespace Go.Proofs.YteeaccnklkcchaaDoor
set_option linter.unusedSimpArgs false
set_option linter.unusedVariables false
open Go Go.RowKit
set_option maxRecDepth 100000
set_option linter.unusedSectionVars false
set_option maxHeartbeats 2000000
/-- An order cut to 13 lists of 14 numbers. -/
def ownA (after : List (List Int)) : List (List Int) := (after.take 13).map fun l => l.take 14
section
variable {w : World} {B : Nat} {av : Value} {vs : List Value} {after : List (List Int)}
theorem law10own (hB : B ≤ w.heap.size) (hv : LLR w B av vs after) : CallsV Tryd.prog 27 #[av] w fun r w' => Ext w w' ∧ OwnLI w' w.heap.size r (ownA after) := by
  have hn : Now w := trivial
  have hx : Ext w w := Ext.refl w
  have hl := hv.len_
  have hmax := hv.max_
  have hg := fun w' (h : Bl B w w') (k : Nat) (hk : k < after.length) => (hv.blz h).get hk
  replace hg : Hid _ := hg
  have hbw : Bl B w w := Bl.refl hB
  (refine callsV_of Tryd.func27 rfl KR KR ?_; rw [Tryd.results27])
  (repeat' first
    | ((with_reducible refine at_row ?_); refine row1_a fun _ _ _ _ _ _ _ => ?_)
    | with_reducible first | (first | apply alloc_k | apply row_k); intro _ _ _ _ _ _ | (first | apply fork | apply forkp) <;> intro _ | refine forke (fun _ => ?_) fun _ _ => ?_ | refine tail_k fun _ _ _ => ?_ | refine ext_k fun _ _ _ => ?_ | refine need_a ?_ | refine st_agg KR rfl ON fun _ _ _ _ => ?_ | refine wpd_q_a ?_
    | simp (maxDischargeDepth := 3) only [↓X, ↓Y, ↓Q, S1, ↓reduceIte, Nat.reduceEqDiff, Nat.reduceAdd, Int.reduceLT, Int.reduceLE, Int.reduceNeg, Int.reduceBEq, Int.reduceBNe, Int.reduceEq, Nat.reduceLeDiff, Nat.reduceMul, Nat.reduceLT, *]
    | simp (singlePass := true) (maxDischargeDepth := 99) only [*, S2, Nat.reduceLT])
  refine loop_o (min after.length 13) (fun w0 g0 k g w' => g 4 = .int .i64 k ∧ (g 0 = g0 0) ∧ ∃ o, g 3 = o ∧ OwnLI w' w0.heap.size o ((ownA after).take k)) KR (by omega) ?_ ?_ ?_
  · (repeat' first
    | ((with_reducible refine at_row ?_); refine row1_a fun _ _ _ _ _ _ _ => ?_)
    | with_reducible first | (first | apply alloc_k | apply row_k); intro _ _ _ _ _ _ | (first | apply fork | apply forkp) <;> intro _ | refine forke (fun _ => ?_) fun _ _ => ?_ | refine tail_k fun _ _ _ => ?_ | refine ext_k fun _ _ _ => ?_ | refine need_a ?_ | refine st_agg KR rfl ON fun _ _ _ _ => ?_ | refine wpd_q_a ?_
    | simp (maxDischargeDepth := 3) only [↓X, ↓Y, ↓Q, S1, ↓reduceIte, Nat.reduceEqDiff, Nat.reduceAdd, Int.reduceLT, Int.reduceLE, Int.reduceNeg, Int.reduceBEq, Int.reduceBNe, Int.reduceEq, Nat.reduceLeDiff, Nat.reduceMul, Nat.reduceLT, *]
    | simp (singlePass := true) (maxDischargeDepth := 99) only [*, S2, Nat.reduceLT])
    exact ⟨_, rfl, OwnLI.nil _ _⟩
  · rintro k m g wk hk hlt nk sk bk hw ⟨hi, hf, o, ho3, hown⟩
    simp (maxDischargeDepth := 3) only [U, ↓reduceIte, Nat.reduceEqDiff, *] at hf
    have hka : k < after.length := by omega
    have hka1 : ((k : Int) < (after.length : Int)) := by omega
    have hka2 : ((k : Int) < 13) := by omega
    obtain ⟨z, hz, hsz⟩ := hg.out wk FR k hka
    have hzk := hsz.k FR
    have hkv : k < vs.length := by rw [hv.len]; exact hka
    have hz9 : ∀ w', Bl B wk w' → rdv none w' (elemAt av 1 k) = some z := fun w' h => by
      have h0 : Bl B w wk := FR
      have h1 := (hv.v.bl h0).rd k hkv
      have h2 := ((hv.v.bl h0).bl h).rd k hkv
      rw [h2, ← h1, hz]
    have hmin : (if (14 : Int) < (after[k].length : Int) then (14 : Int) else (after[k].length : Int)) = ((min after[k].length 14 : Nat) : Int) := by split <;> omega
    have oo := hown.one
    have rk := Ext.refl wk
    have hOx := fun w' (h : Ext wk w') => hown.ext h
    replace hOx : Hid _ := hOx
    have hBk : B ≤ wk.heap.size := FR
    have htk : (ownA after).take (k + 1) = (ownA after).take k ++ [after[k].take 14] := by
      have hl9 : (ownA after).length = min 13 after.length := by simp [ownA]
      rw [appLL_take (by omega)]
      simp [ownA]
    have hkl : ((ownA after).take k).length < 1000000000000 := by rw [List.length_take]; omega
    have hsl : ∀ w', Bl B wk w' → Sl w' B none 1 z (after[k].map intV) := fun w' h => hsz.bl h
    replace hsl : Hid _ := hsl
    have bbk : Bl B wk wk := Bl.refl hBk
    have hmm : min after[k].length 14 ≤ (after[k].map intV).length := by rw [List.length_map]; omega
    replace htk : Hid _ := htk
    have hct : (after[k].take (min after[k].length 14)) = after[k].take 14 := by rw [← List.take_take, List.take_of_length_le (i := after[k].length)]; simp; omega
    replace hct : Hid _ := hct
    have hcz : Hid (∀ w', Bl B wk w' → Sl w' B none 1 (cutV 1 z 0 (min after[k].length 14) (capN z)) ((after[k].take 14).map intV)) := fun w' h => by
      have h3 := (hsl.out w' h).hi hmm
      rw [← List.map_take, hct.out] at h3
      exact h3
    clear hown
    (repeat' first
    | ((with_reducible refine wpd_at 5 ?_); refine wpd_hold ?_)
    | ((with_reducible refine at_row ?_); refine row1_a fun _ _ _ _ _ _ _ => ?_)
    | with_reducible first | (first | apply alloc_k | apply row_k); intro _ _ _ _ _ _ | (first | apply fork | apply forkp) <;> intro _ | refine forke (fun _ => ?_) fun _ _ => ?_ | refine tail_k fun _ _ _ => ?_ | refine ext_k fun _ _ _ => ?_ | refine need_a ?_ | refine st_agg KR rfl ON fun _ _ _ _ => ?_ | refine wpd_q_a ?_
    | simp (maxDischargeDepth := 3) only [↓X, ↓Y, ↓Q, S1, ↓reduceIte, Nat.reduceEqDiff, Nat.reduceAdd, Int.reduceLT, Int.reduceLE, Int.reduceNeg, Int.reduceBEq, Int.reduceBNe, Int.reduceEq, Nat.reduceLeDiff, Nat.reduceMul, Nat.reduceLT, *]
    | simp (singlePass := true) (maxDischargeDepth := 99) only [*, S2, Nat.reduceLT])
    unfold wpdH
    refine wpd_rel 14 (fun iI v w9 => match iI with
      | 0 => v = o
      | 1 => v = av
      | 2 => v = .int .i64 (k : Nat)
      | 3 => v = elemAt av 1 k
      | 4 => v = z
      | 5 => v = av
      | 6 => v = .int .i64 (k : Nat)
      | 7 => v = elemAt av 1 k
      | 8 => v = z
      | 9 => v = .int .i64 (after[k].length : Nat)
      | 10 => v = .int .i64 (min after[k].length 14 : Nat)
      | 11 => v = cutV 1 z 0 (min after[k].length 14) (capN z)
      | 12 => Own w9 wk.heap.size 3 1 v ((after[k].take 14).map intC)
      | 13 => (∃ b u, v = .slice (some ⟨b, 0, none⟩) 1 1 ∧ Blk w9 b 25 [u] ∧ Own w9 wk.heap.size 3 1 u ((after[k].take 14).map intC))
      | _ => False) KR KR KR ?_ ?_ ?_
    · intro iI v w1 w2 hR hx9
      match iI, hR with
      | 0, h => exact h
      | 1, h => exact h
      | 2, h => exact h
      | 3, h => exact h
      | 4, h => exact h
      | 5, h => exact h
      | 6, h => exact h
      | 7, h => exact h
      | 8, h => exact h
      | 9, h => exact h
      | 10, h => exact h
      | 11, h => exact h
      | 12, h => exact Own.ext h hx9
      | 13, h => exact (let ⟨b, u, e, h1, h2⟩ := h; ⟨b, u, e, h1.ext hx9, h2.ext hx9⟩)
    · intro iI oO hi ho gF w9 hx9 hdep hag
      have s9 := hx9.st
      have n9 : Now w9 := trivial
      have r9 := Ext.refl w9
      have z9 := hx9.size
      rcases iI with _|_|_|_|_|_|_|_|_|_|_|_|_|_|iI
      · have e := Option.some.inj ho
        subst e
        have a3 := hag.at 3 KR
        simp only [S5, ↓reduceIte, Nat.reduceEqDiff, initF, *] at a3
        clear hag hdep ho
        refine relStep_off rfl ?_
        (repeat' first
    | refine sl_hi (hsl.out _ FR) hmm ?_
    | ((with_reducible refine at_row ?_); refine row1_a fun _ _ _ _ _ _ _ => ?_)
    | with_reducible first | (first | apply alloc_k | apply row_k); intro _ _ _ _ _ _ | (first | apply fork | apply forkp) <;> intro _ | refine forke (fun _ => ?_) fun _ _ => ?_ | refine tail_k fun _ _ _ => ?_ | refine ext_k fun _ _ _ => ?_ | refine need_a ?_ | refine st_agg KR rfl ON fun _ _ _ _ => ?_ | refine wpd_q_a ?_
    | simp (maxDischargeDepth := 3) only [↓X, ↓Y, ↓Q, S1, ↓reduceIte, Nat.reduceEqDiff, Nat.reduceAdd, Int.reduceLT, Int.reduceLE, Int.reduceNeg, Int.reduceBEq, Int.reduceBNe, Int.reduceEq, Nat.reduceLeDiff, Nat.reduceMul, Nat.reduceLT, *, hmin]
    | simp (singlePass := true) (maxDischargeDepth := 99) only [*, S2, Nat.reduceLT, hmin])
      · have e := Option.some.inj ho
        subst e
        have a0 := hag.at 0 KR
        simp only [S5, ↓reduceIte, Nat.reduceEqDiff, initF, *] at a0
        clear hag hdep ho
        refine relStep_off rfl ?_
        (repeat' first
    | refine sl_hi (hsl.out _ FR) hmm ?_
    | ((with_reducible refine at_row ?_); refine row1_a fun _ _ _ _ _ _ _ => ?_)
    | with_reducible first | (first | apply alloc_k | apply row_k); intro _ _ _ _ _ _ | (first | apply fork | apply forkp) <;> intro _ | refine forke (fun _ => ?_) fun _ _ => ?_ | refine tail_k fun _ _ _ => ?_ | refine ext_k fun _ _ _ => ?_ | refine need_a ?_ | refine st_agg KR rfl ON fun _ _ _ _ => ?_ | refine wpd_q_a ?_
    | simp (maxDischargeDepth := 3) only [↓X, ↓Y, ↓Q, S1, ↓reduceIte, Nat.reduceEqDiff, Nat.reduceAdd, Int.reduceLT, Int.reduceLE, Int.reduceNeg, Int.reduceBEq, Int.reduceBNe, Int.reduceEq, Nat.reduceLeDiff, Nat.reduceMul, Nat.reduceLT, *, hmin]
    | simp (singlePass := true) (maxDischargeDepth := 99) only [*, S2, Nat.reduceLT, hmin])
      · have e := Option.some.inj ho
        subst e
        have a4 := hag.at 4 KR
        simp only [S5, ↓reduceIte, Nat.reduceEqDiff, initF, *] at a4
        clear hag hdep ho
        refine relStep_off rfl ?_
        (repeat' first
    | refine sl_hi (hsl.out _ FR) hmm ?_
    | ((with_reducible refine at_row ?_); refine row1_a fun _ _ _ _ _ _ _ => ?_)
    | with_reducible first | (first | apply alloc_k | apply row_k); intro _ _ _ _ _ _ | (first | apply fork | apply forkp) <;> intro _ | refine forke (fun _ => ?_) fun _ _ => ?_ | refine tail_k fun _ _ _ => ?_ | refine ext_k fun _ _ _ => ?_ | refine need_a ?_ | refine st_agg KR rfl ON fun _ _ _ _ => ?_ | refine wpd_q_a ?_
    | simp (maxDischargeDepth := 3) only [↓X, ↓Y, ↓Q, S1, ↓reduceIte, Nat.reduceEqDiff, Nat.reduceAdd, Int.reduceLT, Int.reduceLE, Int.reduceNeg, Int.reduceBEq, Int.reduceBNe, Int.reduceEq, Nat.reduceLeDiff, Nat.reduceMul, Nat.reduceLT, *, hmin]
    | simp (singlePass := true) (maxDischargeDepth := 99) only [*, S2, Nat.reduceLT, hmin])
      · have e := Option.some.inj ho
        subst e
        have d1 : (gF 16) = av := hdep ⟨1, .data⟩ (by simp) rfl _ _ rfl rfl
        have d2 : (gF 17) = .int .i64 (k : Nat) := hdep ⟨2, .data⟩ (by simp) rfl _ _ rfl rfl
        clear hag hdep ho
        refine relStep_off rfl ?_
        (repeat' first
    | refine sl_hi (hsl.out _ FR) hmm ?_
    | ((with_reducible refine at_row ?_); refine row1_a fun _ _ _ _ _ _ _ => ?_)
    | with_reducible first | (first | apply alloc_k | apply row_k); intro _ _ _ _ _ _ | (first | apply fork | apply forkp) <;> intro _ | refine forke (fun _ => ?_) fun _ _ => ?_ | refine tail_k fun _ _ _ => ?_ | refine ext_k fun _ _ _ => ?_ | refine need_a ?_ | refine st_agg KR rfl ON fun _ _ _ _ => ?_ | refine wpd_q_a ?_
    | simp (maxDischargeDepth := 3) only [↓X, ↓Y, ↓Q, S1, ↓reduceIte, Nat.reduceEqDiff, Nat.reduceAdd, Int.reduceLT, Int.reduceLE, Int.reduceNeg, Int.reduceBEq, Int.reduceBNe, Int.reduceEq, Nat.reduceLeDiff, Nat.reduceMul, Nat.reduceLT, *, hmin]
    | simp (singlePass := true) (maxDischargeDepth := 99) only [*, S2, Nat.reduceLT, hmin])
      · have e := Option.some.inj ho
        subst e
        have d3 : (gF 18) = elemAt av 1 k := hdep ⟨3, .data⟩ (by simp) rfl _ _ rfl rfl
        clear hag hdep ho
        refine relStep_off rfl ?_
        (repeat' first
    | refine sl_hi (hsl.out _ FR) hmm ?_
    | ((with_reducible refine at_row ?_); refine row1_a fun _ _ _ _ _ _ _ => ?_)
    | with_reducible first | (first | apply alloc_k | apply row_k); intro _ _ _ _ _ _ | (first | apply fork | apply forkp) <;> intro _ | refine forke (fun _ => ?_) fun _ _ => ?_ | refine tail_k fun _ _ _ => ?_ | refine ext_k fun _ _ _ => ?_ | refine need_a ?_ | refine st_agg KR rfl ON fun _ _ _ _ => ?_ | refine wpd_q_a ?_
    | simp (maxDischargeDepth := 3) only [↓X, ↓Y, ↓Q, S1, ↓reduceIte, Nat.reduceEqDiff, Nat.reduceAdd, Int.reduceLT, Int.reduceLE, Int.reduceNeg, Int.reduceBEq, Int.reduceBNe, Int.reduceEq, Nat.reduceLeDiff, Nat.reduceMul, Nat.reduceLT, *, hmin]
    | simp (singlePass := true) (maxDischargeDepth := 99) only [*, S2, Nat.reduceLT, hmin])
      · have e := Option.some.inj ho
        subst e
        have a0 := hag.at 0 KR
        simp only [S5, ↓reduceIte, Nat.reduceEqDiff, initF, *] at a0
        clear hag hdep ho
        refine relStep_off rfl ?_
        (repeat' first
    | refine sl_hi (hsl.out _ FR) hmm ?_
    | ((with_reducible refine at_row ?_); refine row1_a fun _ _ _ _ _ _ _ => ?_)
    | with_reducible first | (first | apply alloc_k | apply row_k); intro _ _ _ _ _ _ | (first | apply fork | apply forkp) <;> intro _ | refine forke (fun _ => ?_) fun _ _ => ?_ | refine tail_k fun _ _ _ => ?_ | refine ext_k fun _ _ _ => ?_ | refine need_a ?_ | refine st_agg KR rfl ON fun _ _ _ _ => ?_ | refine wpd_q_a ?_
    | simp (maxDischargeDepth := 3) only [↓X, ↓Y, ↓Q, S1, ↓reduceIte, Nat.reduceEqDiff, Nat.reduceAdd, Int.reduceLT, Int.reduceLE, Int.reduceNeg, Int.reduceBEq, Int.reduceBNe, Int.reduceEq, Nat.reduceLeDiff, Nat.reduceMul, Nat.reduceLT, *, hmin]
    | simp (singlePass := true) (maxDischargeDepth := 99) only [*, S2, Nat.reduceLT, hmin])
      · have e := Option.some.inj ho
        subst e
        have a4 := hag.at 4 KR
        simp only [S5, ↓reduceIte, Nat.reduceEqDiff, initF, *] at a4
        clear hag hdep ho
        refine relStep_off rfl ?_
        (repeat' first
    | refine sl_hi (hsl.out _ FR) hmm ?_
    | ((with_reducible refine at_row ?_); refine row1_a fun _ _ _ _ _ _ _ => ?_)
    | with_reducible first | (first | apply alloc_k | apply row_k); intro _ _ _ _ _ _ | (first | apply fork | apply forkp) <;> intro _ | refine forke (fun _ => ?_) fun _ _ => ?_ | refine tail_k fun _ _ _ => ?_ | refine ext_k fun _ _ _ => ?_ | refine need_a ?_ | refine st_agg KR rfl ON fun _ _ _ _ => ?_ | refine wpd_q_a ?_
    | simp (maxDischargeDepth := 3) only [↓X, ↓Y, ↓Q, S1, ↓reduceIte, Nat.reduceEqDiff, Nat.reduceAdd, Int.reduceLT, Int.reduceLE, Int.reduceNeg, Int.reduceBEq, Int.reduceBNe, Int.reduceEq, Nat.reduceLeDiff, Nat.reduceMul, Nat.reduceLT, *, hmin]
    | simp (singlePass := true) (maxDischargeDepth := 99) only [*, S2, Nat.reduceLT, hmin])
      · have e := Option.some.inj ho
        subst e
        have d5 : (gF 20) = av := hdep ⟨5, .data⟩ (by simp) rfl _ _ rfl rfl
        have d6 : (gF 21) = .int .i64 (k : Nat) := hdep ⟨6, .data⟩ (by simp) rfl _ _ rfl rfl
        clear hag hdep ho
        refine relStep_off rfl ?_
        (repeat' first
    | refine sl_hi (hsl.out _ FR) hmm ?_
    | ((with_reducible refine at_row ?_); refine row1_a fun _ _ _ _ _ _ _ => ?_)
    | with_reducible first | (first | apply alloc_k | apply row_k); intro _ _ _ _ _ _ | (first | apply fork | apply forkp) <;> intro _ | refine forke (fun _ => ?_) fun _ _ => ?_ | refine tail_k fun _ _ _ => ?_ | refine ext_k fun _ _ _ => ?_ | refine need_a ?_ | refine st_agg KR rfl ON fun _ _ _ _ => ?_ | refine wpd_q_a ?_
    | simp (maxDischargeDepth := 3) only [↓X, ↓Y, ↓Q, S1, ↓reduceIte, Nat.reduceEqDiff, Nat.reduceAdd, Int.reduceLT, Int.reduceLE, Int.reduceNeg, Int.reduceBEq, Int.reduceBNe, Int.reduceEq, Nat.reduceLeDiff, Nat.reduceMul, Nat.reduceLT, *, hmin]
    | simp (singlePass := true) (maxDischargeDepth := 99) only [*, S2, Nat.reduceLT, hmin])
      · have e := Option.some.inj ho
        subst e
        have d7 : (gF 22) = elemAt av 1 k := hdep ⟨7, .data⟩ (by simp) rfl _ _ rfl rfl
        clear hag hdep ho
        refine relStep_off rfl ?_
        (repeat' first
    | refine sl_hi (hsl.out _ FR) hmm ?_
    | ((with_reducible refine at_row ?_); refine row1_a fun _ _ _ _ _ _ _ => ?_)
    | with_reducible first | (first | apply alloc_k | apply row_k); intro _ _ _ _ _ _ | (first | apply fork | apply forkp) <;> intro _ | refine forke (fun _ => ?_) fun _ _ => ?_ | refine tail_k fun _ _ _ => ?_ | refine ext_k fun _ _ _ => ?_ | refine need_a ?_ | refine st_agg KR rfl ON fun _ _ _ _ => ?_ | refine wpd_q_a ?_
    | simp (maxDischargeDepth := 3) only [↓X, ↓Y, ↓Q, S1, ↓reduceIte, Nat.reduceEqDiff, Nat.reduceAdd, Int.reduceLT, Int.reduceLE, Int.reduceNeg, Int.reduceBEq, Int.reduceBNe, Int.reduceEq, Nat.reduceLeDiff, Nat.reduceMul, Nat.reduceLT, *, hmin]
    | simp (singlePass := true) (maxDischargeDepth := 99) only [*, S2, Nat.reduceLT, hmin])
      · have e := Option.some.inj ho
        subst e
        have d8 : (gF 23) = z := hdep ⟨8, .data⟩ (by simp) rfl _ _ rfl rfl
        clear hag hdep ho
        refine relStep_off rfl ?_
        (repeat' first
    | refine sl_hi (hsl.out _ FR) hmm ?_
    | ((with_reducible refine at_row ?_); refine row1_a fun _ _ _ _ _ _ _ => ?_)
    | with_reducible first | (first | apply alloc_k | apply row_k); intro _ _ _ _ _ _ | (first | apply fork | apply forkp) <;> intro _ | refine forke (fun _ => ?_) fun _ _ => ?_ | refine tail_k fun _ _ _ => ?_ | refine ext_k fun _ _ _ => ?_ | refine need_a ?_ | refine st_agg KR rfl ON fun _ _ _ _ => ?_ | refine wpd_q_a ?_
    | simp (maxDischargeDepth := 3) only [↓X, ↓Y, ↓Q, S1, ↓reduceIte, Nat.reduceEqDiff, Nat.reduceAdd, Int.reduceLT, Int.reduceLE, Int.reduceNeg, Int.reduceBEq, Int.reduceBNe, Int.reduceEq, Nat.reduceLeDiff, Nat.reduceMul, Nat.reduceLT, *, hmin]
    | simp (singlePass := true) (maxDischargeDepth := 99) only [*, S2, Nat.reduceLT, hmin])
      · have e := Option.some.inj ho
        subst e
        have d9 : (gF 24) = .int .i64 (after[k].length : Nat) := hdep ⟨9, .data⟩ (by simp) rfl _ _ rfl rfl
        clear hag hdep ho
        refine relStep_off rfl ?_
        (repeat' first
    | refine sl_hi (hsl.out _ FR) hmm ?_
    | ((with_reducible refine at_row ?_); refine row1_a fun _ _ _ _ _ _ _ => ?_)
    | with_reducible first | (first | apply alloc_k | apply row_k); intro _ _ _ _ _ _ | (first | apply fork | apply forkp) <;> intro _ | refine forke (fun _ => ?_) fun _ _ => ?_ | refine tail_k fun _ _ _ => ?_ | refine ext_k fun _ _ _ => ?_ | refine need_a ?_ | refine st_agg KR rfl ON fun _ _ _ _ => ?_ | refine wpd_q_a ?_
    | simp (maxDischargeDepth := 3) only [↓X, ↓Y, ↓Q, S1, ↓reduceIte, Nat.reduceEqDiff, Nat.reduceAdd, Int.reduceLT, Int.reduceLE, Int.reduceNeg, Int.reduceBEq, Int.reduceBNe, Int.reduceEq, Nat.reduceLeDiff, Nat.reduceMul, Nat.reduceLT, *, hmin]
    | simp (singlePass := true) (maxDischargeDepth := 99) only [*, S2, Nat.reduceLT, hmin])
      · have e := Option.some.inj ho
        subst e
        have d4 : (gF 19) = z := hdep ⟨4, .data⟩ (by simp) rfl _ _ rfl rfl
        have d10 : (gF 25) = .int .i64 (min after[k].length 14 : Nat) := hdep ⟨10, .data⟩ (by simp) rfl _ _ rfl rfl
        clear hag hdep ho
        refine relStep_off rfl ?_
        (repeat' first
    | refine sl_hi (hsl.out _ FR) hmm ?_
    | ((with_reducible refine at_row ?_); refine row1_a fun _ _ _ _ _ _ _ => ?_)
    | with_reducible first | (first | apply alloc_k | apply row_k); intro _ _ _ _ _ _ | (first | apply fork | apply forkp) <;> intro _ | refine forke (fun _ => ?_) fun _ _ => ?_ | refine tail_k fun _ _ _ => ?_ | refine ext_k fun _ _ _ => ?_ | refine need_a ?_ | refine st_agg KR rfl ON fun _ _ _ _ => ?_ | refine wpd_q_a ?_
    | simp (maxDischargeDepth := 3) only [↓X, ↓Y, ↓Q, S1, ↓reduceIte, Nat.reduceEqDiff, Nat.reduceAdd, Int.reduceLT, Int.reduceLE, Int.reduceNeg, Int.reduceBEq, Int.reduceBNe, Int.reduceEq, Nat.reduceLeDiff, Nat.reduceMul, Nat.reduceLT, *, hmin]
    | simp (singlePass := true) (maxDischargeDepth := 99) only [*, S2, Nat.reduceLT, hmin])
      · have e := Option.some.inj ho
        subst e
        have d11 : (gF 26) = cutV 1 z 0 (min after[k].length 14) (capN z) := hdep ⟨11, .data⟩ (by simp) rfl _ _ rfl rfl
        clear hag hdep ho
        refine relStep_off rfl ?_
        (repeat' first
    | refine sl_hi (hsl.out _ FR) hmm ?_
    | ((with_reducible refine at_row ?_); refine row1_a fun _ _ _ _ _ _ _ => ?_)
    | with_reducible first | (first | apply alloc_k | apply row_k); intro _ _ _ _ _ _ | (first | apply fork | apply forkp) <;> intro _ | refine forke (fun _ => ?_) fun _ _ => ?_ | refine tail_k fun _ _ _ => ?_ | refine ext_k fun _ _ _ => ?_ | refine need_a ?_ | refine st_agg KR rfl ON fun _ _ _ _ => ?_ | refine wpd_q_a ?_
    | simp (maxDischargeDepth := 3) only [↓X, ↓Y, ↓Q, S1, ↓reduceIte, Nat.reduceEqDiff, Nat.reduceAdd, Int.reduceLT, Int.reduceLE, Int.reduceNeg, Int.reduceBEq, Int.reduceBNe, Int.reduceEq, Nat.reduceLeDiff, Nat.reduceMul, Nat.reduceLT, *, hmin]
    | simp (singlePass := true) (maxDischargeDepth := 99) only [*, S2, Nat.reduceLT, hmin])
        refine CallsV.mono (slicesCloneI (B := B) FR (hcz.out _ FR) (by rw [List.length_take]; omega)) fun v w10 hh => ⟨hh.1, Own.more hh.2 z9⟩
      · have e := Option.some.inj ho
        subst e
        have d12 : Own w9 wk.heap.size 3 1 (gF 27) ((after[k].take 14).map intC) := hdep ⟨12, .data⟩ (by simp) rfl _ _ rfl rfl
        have O12 := d12.o
        clear hag hdep ho
        refine relStep_off rfl ?_
        (repeat' first
    | refine sl_hi (hsl.out _ FR) hmm ?_
    | ((with_reducible refine at_row ?_); refine row1_a fun _ _ _ _ _ _ _ => ?_)
    | with_reducible first | (first | apply alloc_k | apply row_k); intro _ _ _ _ _ _ | (first | apply fork | apply forkp) <;> intro _ | refine forke (fun _ => ?_) fun _ _ => ?_ | refine tail_k fun _ _ _ => ?_ | refine ext_k fun _ _ _ => ?_ | refine need_a ?_ | refine st_agg KR rfl ON fun _ _ _ _ => ?_ | refine wpd_q_a ?_
    | simp (maxDischargeDepth := 3) only [↓X, ↓Y, ↓Q, S1, ↓reduceIte, Nat.reduceEqDiff, Nat.reduceAdd, Int.reduceLT, Int.reduceLE, Int.reduceNeg, Int.reduceBEq, Int.reduceBNe, Int.reduceEq, Nat.reduceLeDiff, Nat.reduceMul, Nat.reduceLT, *, hmin]
    | simp (singlePass := true) (maxDischargeDepth := 99) only [*, S2, Nat.reduceLT, hmin])
        rename_i b10 w10 n10 k10 s10 q10 l10
        exact ⟨b10, _, rfl, k10.2.1 _ k10.2.2.1, O12.1 _ FR⟩
      · omega
    · intro g9 w9 hx9 hR hag
      have s9 := hx9.st
      have n9 : Now w9 := trivial
      have r9 := Ext.refl w9
      have z9 := hx9.size
      have d0 : (g9 15) = o := hR 0 _ _ (by decide) rfl rfl
      have d13 : (∃ b u, (g9 28) = .slice (some ⟨b, 0, none⟩) 1 1 ∧ Blk w9 b 25 [u] ∧ Own w9 wk.heap.size 3 1 u ((after[k].take 14).map intC)) := hR 13 _ _ (by decide) rfl rfl
      obtain ⟨b13, u13, e13, hb13, ho13⟩ := d13
      have a0 := hag.at 0 KR
      have a4 := hag.at 4 KR
      simp only [S5, ↓reduceIte, Nat.reduceEqDiff, initF, *] at a0 a4
      clear hag hR
      simp only [List.drop_succ_cons, List.drop_zero]
      (repeat' first
    | ((with_reducible refine at_row ?_); refine row1_a fun _ _ _ _ _ _ _ => ?_)
    | with_reducible first | (first | apply alloc_k | apply row_k); intro _ _ _ _ _ _ | (first | apply fork | apply forkp) <;> intro _ | refine forke (fun _ => ?_) fun _ _ => ?_ | refine tail_k fun _ _ _ => ?_ | refine ext_k fun _ _ _ => ?_ | refine need_a ?_ | refine st_agg KR rfl ON fun _ _ _ _ => ?_ | refine wpd_q_a ?_
    | simp (maxDischargeDepth := 3) only [↓X, ↓Y, ↓Q, S1, ↓reduceIte, Nat.reduceEqDiff, Nat.reduceAdd, Int.reduceLT, Int.reduceLE, Int.reduceNeg, Int.reduceBEq, Int.reduceBNe, Int.reduceEq, Nat.reduceLeDiff, Nat.reduceMul, Nat.reduceLT, *]
    | simp (singlePass := true) (maxDischargeDepth := 99) only [*, S2, Nat.reduceLT])
      refine appLI (hOx.out _ hx9) (ho13.more FR) hb13 hkl FR fun v' w11 n11 s11 hown11 => ?_
      rw [← htk.out] at hown11
      have hO9 : Hid _ := hown11
      clear hown11
      (repeat' first
    | ((with_reducible refine at_row ?_); refine row1_a fun _ _ _ _ _ _ _ => ?_)
    | with_reducible first | (first | apply alloc_k | apply row_k); intro _ _ _ _ _ _ | (first | apply fork | apply forkp) <;> intro _ | refine forke (fun _ => ?_) fun _ _ => ?_ | refine tail_k fun _ _ _ => ?_ | refine ext_k fun _ _ _ => ?_ | refine need_a ?_ | refine st_agg KR rfl ON fun _ _ _ _ => ?_ | refine wpd_q_a ?_
    | simp (maxDischargeDepth := 3) only [↓X, ↓Y, ↓Q, S1, ↓reduceIte, Nat.reduceEqDiff, Nat.reduceAdd, Int.reduceLT, Int.reduceLE, Int.reduceNeg, Int.reduceBEq, Int.reduceBNe, Int.reduceEq, Nat.reduceLeDiff, Nat.reduceMul, Nat.reduceLT, *]
    | simp (singlePass := true) (maxDischargeDepth := 99) only [*, S2, Nat.reduceLT])
      refine next_k hk hlt ?_ FR
      (repeat' first
    | ((with_reducible refine at_row ?_); refine row1_a fun _ _ _ _ _ _ _ => ?_)
    | with_reducible first | (first | apply alloc_k | apply row_k); intro _ _ _ _ _ _ | (first | apply fork | apply forkp) <;> intro _ | refine forke (fun _ => ?_) fun _ _ => ?_ | refine tail_k fun _ _ _ => ?_ | refine ext_k fun _ _ _ => ?_ | refine need_a ?_ | refine st_agg KR rfl ON fun _ _ _ _ => ?_ | refine wpd_q_a ?_
    | simp (maxDischargeDepth := 3) only [↓X, ↓Y, ↓Q, S1, ↓reduceIte, Nat.reduceEqDiff, Nat.reduceAdd, Int.reduceLT, Int.reduceLE, Int.reduceNeg, Int.reduceBEq, Int.reduceBNe, Int.reduceEq, Nat.reduceLeDiff, Nat.reduceMul, Nat.reduceLT, *]
    | simp (singlePass := true) (maxDischargeDepth := 99) only [*, S2, Nat.reduceLT])
      exact ⟨_, rfl, hO9.out⟩
  · rintro g wk nk sk bk ⟨hi, hf, o, ho3, hown⟩
    simp (maxDischargeDepth := 3) only [U, ↓reduceIte, Nat.reduceEqDiff, *] at hf
    have hl9 : (ownA after).length = min after.length 13 := by simp [ownA]; omega
    rw [← hl9, List.take_length] at hown
    have oo := hown.one
    have rk := Ext.refl wk
    have hO : Hid _ := hown
    clear hown
    by_cases hka : after.length < 13
    · have hm : min after.length 13 = after.length := by omega
      have h1 : ¬ ((after.length : Int) < (after.length : Int)) := by omega
      rw [hm] at hi
      (repeat' first
    | ((with_reducible refine at_row ?_); refine row1_a fun _ _ _ _ _ _ _ => ?_)
    | with_reducible first | (first | apply alloc_k | apply row_k); intro _ _ _ _ _ _ | (first | apply fork | apply forkp) <;> intro _ | refine forke (fun _ => ?_) fun _ _ => ?_ | refine tail_k fun _ _ _ => ?_ | refine ext_k fun _ _ _ => ?_ | refine need_a ?_ | refine st_agg KR rfl ON fun _ _ _ _ => ?_ | refine wpd_q_a ?_
    | simp (maxDischargeDepth := 3) only [↓X, ↓Y, ↓Q, S1, ↓reduceIte, Nat.reduceEqDiff, Nat.reduceAdd, Int.reduceLT, Int.reduceLE, Int.reduceNeg, Int.reduceBEq, Int.reduceBNe, Int.reduceEq, Nat.reduceLeDiff, Nat.reduceMul, Nat.reduceLT, *]
    | simp (singlePass := true) (maxDischargeDepth := 99) only [*, S2, Nat.reduceLT])
      exact OwnLI.more hO.out FR
    · have hm : min after.length 13 = 13 := by omega
      rw [hm] at hi
      have h1 : ¬ (((13 : Nat) : Int) < 13) := by omega
      (repeat' first
    | ((with_reducible refine at_row ?_); refine row1_a fun _ _ _ _ _ _ _ => ?_)
    | with_reducible first | (first | apply alloc_k | apply row_k); intro _ _ _ _ _ _ | (first | apply fork | apply forkp) <;> intro _ | refine forke (fun _ => ?_) fun _ _ => ?_ | refine tail_k fun _ _ _ => ?_ | refine ext_k fun _ _ _ => ?_ | refine need_a ?_ | refine st_agg KR rfl ON fun _ _ _ _ => ?_ | refine wpd_q_a ?_
    | simp (maxDischargeDepth := 3) only [↓X, ↓Y, ↓Q, S1, ↓reduceIte, Nat.reduceEqDiff, Nat.reduceAdd, Int.reduceLT, Int.reduceLE, Int.reduceNeg, Int.reduceBEq, Int.reduceBNe, Int.reduceEq, Nat.reduceLeDiff, Nat.reduceMul, Nat.reduceLT, *]
    | simp (singlePass := true) (maxDischargeDepth := 99) only [*, S2, Nat.reduceLT])
      all_goals exact OwnLI.more hO.out FR
theorem row_ints {w : World} {b n : Nat} {l : List Int} (hb : Blk w b 3 (l.map intV)) (hn : n = l.length) (hs : l.length ≤ 1000000) (B : Nat) (hB : b < B) : Sl w B none 1 (.slice (some ⟨b, 0, none⟩) n n) (l.map intV) := by
  refine (row_sl hb (by rw [List.length_map]; exact hn) (by rw [List.length_map]; omega)).less fun c hc => ?_
  obtain rfl := Option.some.inj hc
  exact hB
theorem law10sample : CallsV Tryd.prog 24 #[] w fun r w' => Ext w w' ∧ ∃ vs, LLR w' w'.heap.size r vs smpA := by
  have hn : Now w := trivial
  have hx : Ext w w := Ext.refl w
  (refine callsV_of Tryd.func24 rfl KR KR ?_; rw [Tryd.results24])
  (repeat' first
    | ((with_reducible refine at_row ?_); refine row1_a fun _ _ _ _ _ _ _ => ?_)
    | with_reducible first | (first | apply alloc_k | apply row_k); intro _ _ _ _ _ _ | (first | apply fork | apply forkp) <;> intro _ | refine forke (fun _ => ?_) fun _ _ => ?_ | refine tail_k fun _ _ _ => ?_ | refine ext_k fun _ _ _ => ?_ | refine need_a ?_ | refine st_agg KR rfl ON fun _ _ _ _ => ?_ | refine wpd_q_a ?_
    | simp (maxDischargeDepth := 3) only [↓X, ↓Y, ↓Q, S1, ↓reduceIte, Nat.reduceEqDiff, Nat.reduceAdd, Int.reduceLT, Int.reduceLE, Int.reduceNeg, Int.reduceBEq, Int.reduceBNe, Int.reduceEq, Nat.reduceLeDiff, Nat.reduceMul, Nat.reduceLT, *]
    | simp (singlePass := true) (maxDischargeDepth := 99) only [*, S2, Nat.reduceLT])
  rename_i b1 w1 n1 k1 s1 q1 l1 b2 w2 n2 k2 s2 q2 l2 b3 w3 n3 k3 s3 q3 l3
  refine ⟨[.slice none 0 0, .slice none 0 0, .slice (some ⟨b1, 0, none⟩) 2 2, .slice (some ⟨b2, 0, none⟩) 2 2], row_sl (k3.2.1 _ FR) rfl (by simp), rfl, fun i hi => ?_⟩
  have h1 : Sl w3 w3.heap.size none 1 (.slice (some ⟨b1, 0, none⟩) 2 2) ([0, 1].map intV) := row_sl (k1.2.1 _ FR) rfl (by simp)
  have h2 : Sl w3 w3.heap.size none 1 (.slice (some ⟨b2, 0, none⟩) 2 2) ([1, 2].map intV) := row_sl (k2.2.1 _ FR) rfl (by simp)
  match i, hi with
  | 0, _ => exact ⟨_, rfl, Sl.nil _ _ _ _⟩
  | 1, _ => exact ⟨_, rfl, Sl.nil _ _ _ _⟩
  | 2, _ => exact ⟨_, rfl, h1⟩
  | 3, _ => exact ⟨_, rfl, h2⟩
  | i + 4, h => exact absurd h (by simp [smpA])
end
end Go.Proofs.YteeaccnklkcchaaDoor
