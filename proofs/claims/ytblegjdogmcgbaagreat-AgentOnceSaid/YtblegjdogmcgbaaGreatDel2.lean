
/- slices.DeleteFunc, of replicas: of what was there, the row's own block alone may turn. -/
import Derived.Test.YtblegjdogmcgbaaGreatCut
namespace Go.Proofs.YtblegjdogmcgbaaGreat
set_option linter.unusedSimpArgs false
set_option linter.unusedVariables false
open Go Go.RowKit
set_option maxRecDepth 100000
set_option linter.unusedSectionVars false
set_option maxHeartbeats 1000000
section
variable {w : World} {B e sz : Nat} {v : Value} {cs : List (List Value)}
theorem own_clear_c {t ty n by_ N : Nat} {z : Value} {f : Value → World → Prop} (hsl : slOf Tryz.prog t = some (e, sz, by_)) (hz : zeroElt Tryz.prog t = some z) (hzs : z.cells.size = sz) (hz1 : z.cells.toList.all (fun u => u.oneCell') = true) (hown : Own w B e sz v cs) (hn : n ≤ cs.length) (hB : B ≤ w.heap.size) (hN : N = lenN v)
    (h : ∀ w', Now w' → Own w' B e sz (cutV sz v 0 n (capN v)) (cs.take n) → Below B w w' → (∀ g, blockOf v = some g → Chg w w' g) → f (.tuple #[]) w') : clearX Tryz.prog t ty (cutV sz v n N (capN v)) w f := by
  subst hN
  obtain ⟨i, hu, hi, hs, hby⟩ := slOf_parts hsl
  have hz' : i.zero = some z := by
    unfold zeroElt at hz
    rw [hsl] at hz
    simpa [zeroOf, hi] using hz
  have hcut := own_cut hown hn
  rcases hown.1.2 with ⟨rfl, hn0⟩ | ⟨g, cap, cur, rfl, hb, hg, hc1, hc2, hsz, htk⟩
  · have hn : n = 0 := by omega
    subst hn
    exact runsV_ok (w' := w) (v := .tuple #[]) (by simp [Builtin.clear_, cutV, run_underlying hu, capN]) (h w trivial hcut (Below.refl _ _) fun g _ => Chg.refl' w g)
  · by_cases e0 : cs.length - n = 0
    · exact runsV_ok (w' := w) (v := .tuple #[]) (by by_cases hc : cap = n <;> simp [Builtin.clear_, cutV, lenN, capN, e0, hc, run_underlying hu]) (h w trivial hcut (Below.refl _ _) fun g _ => Chg.refl' w g)
    · have hne : ¬ cap = n := by omega
      have hle : cs.length * sz ≤ cap * sz := Nat.mul_le_mul_right _ hc1
      have hlen : n * sz + (cs.length - n) * sz = cs.length * sz := by rw [← Nat.add_mul]; congr 1; omega
      have hzl := zc_list z.cells (cs.length - n)
      rw [hzs] at hzl
      have hst := run_storeCells_at Tryz.prog g (n * sz) e (Builtin.zeroCells z.cells (cs.length - n)).toList 0 cur w hg (by simp only [Nat.add_zero, hzl]; omega) (fun u hu => by
        have h9 := List.all_eq_true.1 hz1
        rw [Builtin.zeroCells, Array.toList_map, List.mem_map] at hu
        obtain ⟨j, hj, rfl⟩ := hu
        rcases Nat.lt_or_ge (j % z.cells.size) z.cells.size with hlt | hge
        · rw [getElem!_pos z.cells _ hlt]
          exact h9 _ (by simp)
        · exact absurd hge (by
            have : 0 < z.cells.size := by
              rcases Nat.eq_zero_or_pos z.cells.size with h0 | h0
              · rw [h0] at hj; simp at hj
              · exact h0
            have := Nat.mod_lt j this
            omega))
      simp only [Nat.add_zero, hzl] at hst
      have hrun : (Builtin.clear_ #[t] ty #[cutV sz (.slice (some ⟨g, 0, none⟩) cs.length cap) n cs.length cap]).run Tryz.prog w = .ok (.tuple #[]) (w.setRow g (cur.toList.take (n * sz) ++ (Builtin.zeroCells z.cells (cs.length - n)).toList ++ cur.toList.drop (n * sz + (cs.length - n) * sz)).toArray) := by
        have h8 : ∃ m, cs.length - n = m + 1 := ⟨cs.length - n - 1, by omega⟩
        obtain ⟨m, hm⟩ := h8
        simp only [cutV, hne, if_false, Option.map_some, add_none, Nat.zero_add]
        rw [hm] at hst ⊢
        simp [Builtin.clear_, run_underlying hu, zeroValue, typeInfo, hi, hz']
        rw [hst]
        simp [Result.andThen]
      refine runsV_ok hrun (h _ trivial ?_ ?_ ?_)
      · have hl : (cs.take n).length = n := by rw [List.length_take]; omega
        refine ⟨⟨hcut.1.1, .inr ⟨g, cap, _, ?_, hb, setRow_heap w g cur _ e _ hg, by omega, hc2, ?_, ?_⟩⟩, hcut.each, hcut.small⟩
        · rw [hl]
          simp only [cutV, capN, Nat.sub_zero, Nat.zero_mul, Option.map_some]
          split <;> rfl
        · simp only [List.size_toArray, List.length_append, List.length_take, List.length_drop, Array.length_toList, hzl]
          omega
        · have hnc : n * sz ≤ cap * sz := Nat.mul_le_mul_right _ (by omega)
          rw [hl, List.toList_toArray, List.append_assoc, List.take_append_of_le_length (by rw [List.length_take, Array.length_toList]; omega), List.take_take, Nat.min_self, ← flat_take cs n hown.each, ← htk, List.take_take, Nat.min_eq_left (Nat.mul_le_mul_right _ hn)]
      · exact (chg_row w g _).below hb hB
      · intro g' hg'
        obtain rfl : g = g' := Option.some.inj hg'
        exact chg_row w g _
end
section
variable {w : World} {B : Nat}
theorem deleteFuncC {v : Value} {l : List ReplicaD} {cl : Nat} {caps : List Value} {q : ReplicaD → Bool} (hB : B ≤ w.heap.size) (hown : OwnP w B v l) (hc : callable Tryz.prog cl = true)
    (hf : ∀ x w', Bl B w w' → Ret Tryz.prog cl (replicaV x :: caps).toArray w' (.bool (q x))) : CallsV Tryz.prog 38 #[v, .func (.func cl) #[] caps.toArray] w fun v' w' => Below B w w' ∧ (∃ g, (blockOf v = some g ∨ w.heap.size ≤ g) ∧ Cg g w w') ∧ OwnP w' B v' (l.filter fun x => !q x) := by
  have hn : Now w := trivial
  have hx : Ext w w := Ext.refl w
  have hs0 := hown.slN (f := replC)
  have hl := hown.l
  rw [List.length_map] at hl
  have hb0 : Bl B w w := Bl.refl hB
  have hsm : l.length ≤ 140737488355328 := by simpa using hown.small
  have hsm : Hid _ := hsm
  have hi : Ret Tryz.prog 68 #[v, .func (.func cl) #[] caps.toArray] w (.int .i64 (fidx q l)) := indexFunc_Replica (Nat.le_refl _) hs0 hc (fun x _ w' hx' => hf x w' (hb0.ext hx'))
  (refine callsV_of Tryz.func38 rfl KR KR ?_; rw [Tryz.results38])
  rcases fidx_split q l with ⟨e, hn⟩ | ⟨i, hil, e, hqi, hbef⟩
  · rw [e] at hi
    (repeat' first
    | ((with_reducible refine at_row ?_); refine row1_a fun _ _ _ _ _ _ _ => ?_)
    | with_reducible first | (first | apply alloc_k | apply row_k); intro _ _ _ _ _ _ | (first | apply fork | apply forkp) <;> intro _ | refine forke (fun _ => ?_) fun _ _ => ?_ | refine tail_k fun _ _ _ => ?_ | refine ext_k fun _ _ _ => ?_ | refine need_a ?_ | refine st_agg KR rfl ON fun _ _ _ _ => ?_ | refine wpd_q_a ?_
    | ((with_reducible refine at_f 68 ?_); refine ret_k (hi) fun _ _ _ => ?_)
    | simp (maxDischargeDepth := 3) only [↓X, ↓Y, ↓Q, S1, ↓reduceIte, Nat.reduceEqDiff, Nat.reduceAdd, Int.reduceLT, Int.reduceLE, Int.reduceNeg, Int.reduceBEq, Int.reduceBNe, Int.reduceEq, Nat.reduceLeDiff, Nat.reduceMul, Nat.reduceLT, *]
    | simp (singlePass := true) (maxDischargeDepth := 99) only [*, S2, Nat.reduceLT])
    · rename_i w1 n1 s1
      have hall : (l.filter fun x => !q x) = l := List.filter_eq_self.2 fun x hx' => by simp [hn x hx']
      rw [hall]
      have o := hown.o
      have hbl1 : Bl B w w1 := FR
      have hxx : Ext w w1 := FR
      exact ⟨hbl1.2, ⟨w.heap.size, .inr (Nat.le_refl _), (Chg.refl' w _).trans_ext hxx⟩, o.1 _ FR⟩
  · rw [e] at hi
    (repeat' first
    | ((with_reducible refine at_row ?_); refine row1_a fun _ _ _ _ _ _ _ => ?_)
    | with_reducible first | (first | apply alloc_k | apply row_k); intro _ _ _ _ _ _ | (first | apply fork | apply forkp) <;> intro _ | refine forke (fun _ => ?_) fun _ _ => ?_ | refine tail_k fun _ _ _ => ?_ | refine ext_k fun _ _ _ => ?_ | refine need_a ?_ | refine st_agg KR rfl ON fun _ _ _ _ => ?_ | refine wpd_q_a ?_
    | ((with_reducible refine at_f 68 ?_); refine ret_k (hi) fun _ _ _ => ?_)
    | simp (maxDischargeDepth := 3) only [↓X, ↓Y, ↓Q, S1, ↓reduceIte, Nat.reduceEqDiff, Nat.reduceAdd, Int.reduceLT, Int.reduceLE, Int.reduceNeg, Int.reduceBEq, Int.reduceBNe, Int.reduceEq, Nat.reduceLeDiff, Nat.reduceMul, Nat.reduceLT, *]
    | simp (singlePass := true) (maxDischargeDepth := 99) only [*, S2, Nat.reduceLT])
    · exfalso; omega
    rename_i w1 n1 s1 e1 e2
    have o := hown.o
    have hbl1 : Bl B w w1 := FR
    have hown1 : OwnP w1 B v l := o.1 _ FR
    have hxx : Ext w w1 := FR
    obtain ⟨gb, hg0⟩ : ∃ g, blockOf v = some g := by
      rcases hown.1.2 with ⟨_, hn⟩ | ⟨g, cap, cur, rfl, _⟩
      · rw [List.length_map] at hn; omega
      · exact ⟨g, rfl⟩
    have hcg1 : Cg gb w w1 := (Chg.refl' w gb).trans_ext hxx
    replace hg0 : Hid _ := hg0
    clear hxx
    have hw1 : IntKind.i64.wrap ((i : Int) + 1) = ((i + 1 : Nat) : Int) := by
      have := hsm.out
      rw [wrap_i64_id] <;> omega
    clear o e1 e2
    refine loop_f (i + 1) l.length (fun g0 k g w' => ∃ m0 mid, ∃ j : Nat, g 5 = .int .i64 j ∧ g 6 = .int .i64 k ∧ (g 0 = g0 0 ∧ g 1 = g0 1) ∧ Bl B w w' ∧ Cg gb w w' ∧ j + (mid.length + 1) = k ∧ ((l.take k).filter fun x => !q x).length = j ∧ OwnP w' B v (((l.take k).filter fun x => !q x) ++ m0 :: mid ++ l.drop k)) KR hil ?_ ?_ ?_
    · (repeat' first
    | ((with_reducible refine at_row ?_); refine row1_a fun _ _ _ _ _ _ _ => ?_)
    | with_reducible first | (first | apply alloc_k | apply row_k); intro _ _ _ _ _ _ | (first | apply fork | apply forkp) <;> intro _ | refine forke (fun _ => ?_) fun _ _ => ?_ | refine tail_k fun _ _ _ => ?_ | refine ext_k fun _ _ _ => ?_ | refine need_a ?_ | refine st_agg KR rfl ON fun _ _ _ _ => ?_ | refine wpd_q_a ?_
    | simp (maxDischargeDepth := 3) only [↓X, ↓Y, ↓Q, S1, ↓reduceIte, Nat.reduceEqDiff, Nat.reduceAdd, Int.reduceLT, Int.reduceLE, Int.reduceNeg, Int.reduceBEq, Int.reduceBNe, Int.reduceEq, Nat.reduceLeDiff, Nat.reduceMul, Nat.reduceLT, *]
    | simp (singlePass := true) (maxDischargeDepth := 99) only [*, S2, Nat.reduceLT])
      refine ⟨l[i], [], i, rfl, rfl, ?_⟩
      have h1 : ((l.take (i + 1)).filter fun x => !q x) = l.take i := by
        rw [filter_split q l hil, hqi]
        simp only [if_true, List.append_nil]
        exact List.filter_eq_self.2 fun x hx' => by simp [hbef x hx']
      rw [h1]
      refine ⟨by rw [List.length_take]; omega, ?_⟩
      rw [show l.take i ++ l[i] :: [] ++ l.drop (i + 1) = l by simp]
      exact hown1
    · rintro k m g wk hk hlt nk ⟨m0, mid, j, h5, h6, hf', hbl, hcg, hj, hkl, hownk⟩
      simp (maxDischargeDepth := 3) only [U, ↓reduceIte, Nat.reduceEqDiff, *] at hf'
      have hsk := (hownk.slN (f := replC)).v (Nat.le_refl _)
      have ok := hownk.o
      have hBk : B ≤ wk.heap.size := hbl.size
      have hszk : w.heap.size ≤ wk.heap.size := Chg.size hcg
      have hlen : (((l.take k).filter fun x => !q x) ++ m0 :: mid ++ l.drop k).length = l.length := by
        simp only [List.length_append, List.length_cons, List.length_drop, hkl]
        omega
      have hat : (((l.take k).filter fun x => !q x) ++ m0 :: mid ++ l.drop k)[k]'(by omega) = l[k] := by
        rw [List.getElem_append_right (by simp only [List.length_append, List.length_cons, hkl]; omega)]
        simp only [List.getElem_drop, List.length_append, List.length_cons, hkl]
        congr 1
        omega
      obtain ⟨f1, f2, f3, f4, f5, f6, f7, f8⟩ := hsk
      rw [hlen] at f3
      have hrd : ∀ w', Vp v wk w' → rdv (some 2) w' (elemAt v 2 k) = some (replicaV l[k]) := fun w' hv => by
        have := f6 w' hv k (by omega)
        rw [hat] at this
        exact this
      clear f6 f7 hat
      have hwk : IntKind.i64.wrap ((k : Int) + 1) = ((k + 1 : Nat) : Int) := by
        have := hsm.out
        rw [wrap_i64_id] <;> omega
      have hwj : IntKind.i64.wrap ((j : Int) + 1) = ((j + 1 : Nat) : Int) := by
        have := hsm.out
        rw [wrap_i64_id] <;> omega
      (repeat' first
    | ((with_reducible refine at_row ?_); refine row1_a fun _ _ _ _ _ _ _ => ?_)
    | with_reducible first | (first | apply alloc_k | apply row_k); intro _ _ _ _ _ _ | (first | apply fork | apply forkp) <;> intro _ | refine forke (fun _ => ?_) fun _ _ => ?_ | refine tail_k fun _ _ _ => ?_ | refine ext_k fun _ _ _ => ?_ | refine need_a ?_ | refine st_agg KR rfl ON fun _ _ _ _ => ?_ | refine wpd_q_a ?_
    | simp (maxDischargeDepth := 3) only [↓X, ↓Y, ↓Q, S1, ↓reduceIte, Nat.reduceEqDiff, Nat.reduceAdd, Int.reduceLT, Int.reduceLE, Int.reduceNeg, Int.reduceBEq, Int.reduceBNe, Int.reduceEq, Nat.reduceLeDiff, Nat.reduceMul, Nat.reduceLT, *, replicaV, hc]
    | simp (singlePass := true) (maxDischargeDepth := 99) only [*, S2, Nat.reduceLT, replicaV, hc])
      rename_i b2 w2 n2 k2 s2 q2 w3 n3 k3 s3
      refine ret_k (hf l[k] _ FR) fun w4 n4 s4 => ?_
      have hsp := filter_split q l hlt
      have hdr : l.drop k = l[k] :: l.drop (k + 1) := List.drop_eq_getElem_cons hlt
      cases hq : q l[k] with
      | true =>
        rw [hq] at hsp
        simp only [if_true, List.append_nil] at hsp
        (repeat' first
    | ((with_reducible refine at_row ?_); refine row1_a fun _ _ _ _ _ _ _ => ?_)
    | with_reducible first | (first | apply alloc_k | apply row_k); intro _ _ _ _ _ _ | (first | apply fork | apply forkp) <;> intro _ | refine forke (fun _ => ?_) fun _ _ => ?_ | refine tail_k fun _ _ _ => ?_ | refine ext_k fun _ _ _ => ?_ | refine need_a ?_ | refine st_agg KR rfl ON fun _ _ _ _ => ?_ | refine wpd_q_a ?_
    | simp (maxDischargeDepth := 3) only [↓X, ↓Y, ↓Q, S1, ↓reduceIte, Nat.reduceEqDiff, Nat.reduceAdd, Int.reduceLT, Int.reduceLE, Int.reduceNeg, Int.reduceBEq, Int.reduceBNe, Int.reduceEq, Nat.reduceLeDiff, Nat.reduceMul, Nat.reduceLT, *]
    | simp (singlePass := true) (maxDischargeDepth := 99) only [*, S2, Nat.reduceLT])
        refine next_g hk hlt ?_
        (repeat' first
    | ((with_reducible refine at_row ?_); refine row1_a fun _ _ _ _ _ _ _ => ?_)
    | with_reducible first | (first | apply alloc_k | apply row_k); intro _ _ _ _ _ _ | (first | apply fork | apply forkp) <;> intro _ | refine forke (fun _ => ?_) fun _ _ => ?_ | refine tail_k fun _ _ _ => ?_ | refine ext_k fun _ _ _ => ?_ | refine need_a ?_ | refine st_agg KR rfl ON fun _ _ _ _ => ?_ | refine wpd_q_a ?_
    | simp (maxDischargeDepth := 3) only [↓X, ↓Y, ↓Q, S1, ↓reduceIte, Nat.reduceEqDiff, Nat.reduceAdd, Int.reduceLT, Int.reduceLE, Int.reduceNeg, Int.reduceBEq, Int.reduceBNe, Int.reduceEq, Nat.reduceLeDiff, Nat.reduceMul, Nat.reduceLT, *]
    | simp (singlePass := true) (maxDischargeDepth := 99) only [*, S2, Nat.reduceLT])
        refine ⟨m0, mid ++ [l[k]], j, rfl, ?_, ?_⟩
        · simp; omega
        · have := ok.1 w4 FR
          rw [hdr] at this
          simpa [OwnP] using this
      | false =>
        rw [hq] at hsp
        simp only [Bool.false_eq_true, if_false] at hsp
        have hw4 : Bl B w w4 := FR
        have hbp : Bp v wk w4 := FR
        have hcg4 : Cg gb w w4 := FR
        have hv4 : OwnP w4 B v (((l.take k).filter fun x => !q x) ++ m0 :: mid ++ l.drop k) := ok.1 _ hbp
        have hset : ((((l.take k).filter fun x => !q x) ++ m0 :: mid ++ l.drop k).map replC).set j (replC l[k]) = (((l.take k).filter fun x => !q x) ++ l[k] :: mid ++ l.drop k).map replC := by
          rw [← List.map_set]
          congr 1
          rw [List.append_assoc, List.set_append_right _ _ (by omega), hkl, Nat.sub_self]
          simp
        (repeat' first
    | ((with_reducible refine at_row ?_); refine row1_a fun _ _ _ _ _ _ _ => ?_)
    | with_reducible first | (first | apply alloc_k | apply row_k); intro _ _ _ _ _ _ | (first | apply fork | apply forkp) <;> intro _ | refine forke (fun _ => ?_) fun _ _ => ?_ | refine tail_k fun _ _ _ => ?_ | refine ext_k fun _ _ _ => ?_ | refine need_a ?_ | refine st_agg KR rfl ON fun _ _ _ _ => ?_ | refine wpd_q_a ?_
    | simp (maxDischargeDepth := 3) only [↓X, ↓Y, ↓Q, S1, ↓reduceIte, Nat.reduceEqDiff, Nat.reduceAdd, Int.reduceLT, Int.reduceLE, Int.reduceNeg, Int.reduceBEq, Int.reduceBNe, Int.reduceEq, Nat.reduceLeDiff, Nat.reduceMul, Nat.reduceLT, *, replicaV]
    | simp (singlePass := true) (maxDischargeDepth := 99) only [*, S2, Nat.reduceLT, replicaV])
        refine own_set (i := j) (vs := replC l[k]) KR (by decide) hv4 (by simp only [List.length_map, hlen]; omega) rfl (replC_one _) fun b9 w10 n10 e9 hb9 hl9 hown9 s10 c10 => ?_
        rw [hset] at hown9
        have hw10 : Bl B w w10 := hw4.chg c10 hb9
        have hcg10 : Cg gb w w10 := hcg4.trans_chg c10 (.inl (Option.some.inj (e9.symm.trans hg0.out)))
        clear e9
        (repeat' first
    | ((with_reducible refine at_row ?_); refine row1_a fun _ _ _ _ _ _ _ => ?_)
    | with_reducible first | (first | apply alloc_k | apply row_k); intro _ _ _ _ _ _ | (first | apply fork | apply forkp) <;> intro _ | refine forke (fun _ => ?_) fun _ _ => ?_ | refine tail_k fun _ _ _ => ?_ | refine ext_k fun _ _ _ => ?_ | refine need_a ?_ | refine st_agg KR rfl ON fun _ _ _ _ => ?_ | refine wpd_q_a ?_
    | simp (maxDischargeDepth := 3) only [↓X, ↓Y, ↓Q, S1, ↓reduceIte, Nat.reduceEqDiff, Nat.reduceAdd, Int.reduceLT, Int.reduceLE, Int.reduceNeg, Int.reduceBEq, Int.reduceBNe, Int.reduceEq, Nat.reduceLeDiff, Nat.reduceMul, Nat.reduceLT, *]
    | simp (singlePass := true) (maxDischargeDepth := 99) only [*, S2, Nat.reduceLT])
        refine next_g hk hlt ?_
        (repeat' first
    | ((with_reducible refine at_row ?_); refine row1_a fun _ _ _ _ _ _ _ => ?_)
    | with_reducible first | (first | apply alloc_k | apply row_k); intro _ _ _ _ _ _ | (first | apply fork | apply forkp) <;> intro _ | refine forke (fun _ => ?_) fun _ _ => ?_ | refine tail_k fun _ _ _ => ?_ | refine ext_k fun _ _ _ => ?_ | refine need_a ?_ | refine st_agg KR rfl ON fun _ _ _ _ => ?_ | refine wpd_q_a ?_
    | simp (maxDischargeDepth := 3) only [↓X, ↓Y, ↓Q, S1, ↓reduceIte, Nat.reduceEqDiff, Nat.reduceAdd, Int.reduceLT, Int.reduceLE, Int.reduceNeg, Int.reduceBEq, Int.reduceBNe, Int.reduceEq, Nat.reduceLeDiff, Nat.reduceMul, Nat.reduceLT, *]
    | simp (singlePass := true) (maxDischargeDepth := 99) only [*, S2, Nat.reduceLT])
        rw [List.append_assoc, hdr] at hown9
        cases mid with
        | nil =>
          refine ⟨l[k], [], j + 1, rfl, by simpa using hj, by simp [hkl], ?_⟩
          simpa [OwnP] using hown9
        | cons m1 mid' =>
          refine ⟨m1, mid' ++ [l[k]], j + 1, rfl, by simp at hj ⊢; omega, by simp [hkl], ?_⟩
          simpa [OwnP] using hown9
    · rintro g wk nk ⟨m0, mid, j, h5, h6, hf', hbl, hcg, hj, hkl, hownk⟩
      simp (maxDischargeDepth := 3) only [U, ↓reduceIte, Nat.reduceEqDiff, *] at hf'
      rw [take_all'] at hkl hownk
      have hlk := hownk.l
      rw [List.length_map] at hlk
      have hlen : ((l.filter fun x => !q x) ++ m0 :: mid ++ l.drop l.length).length = l.length := by
        simp only [List.length_append, List.length_cons, List.length_drop, hkl]
        omega
      rw [hlen] at hlk
      have hsl := hownk.o.2.2.2.2.2.1
      have hjl : j ≤ l.length := by omega
      have hnlt : ¬ l.length < l.length := by omega
      have hjc : j ≤ capN v := by omega
      (repeat' first
    | ((with_reducible refine at_row ?_); refine row1_a fun _ _ _ _ _ _ _ => ?_)
    | with_reducible first | (first | apply alloc_k | apply row_k); intro _ _ _ _ _ _ | (first | apply fork | apply forkp) <;> intro _ | refine forke (fun _ => ?_) fun _ _ => ?_ | refine tail_k fun _ _ _ => ?_ | refine ext_k fun _ _ _ => ?_ | refine need_a ?_ | refine st_agg KR rfl ON fun _ _ _ _ => ?_ | refine wpd_q_a ?_
    | simp (maxDischargeDepth := 3) only [↓X, ↓Y, ↓Q, S1, ↓reduceIte, Nat.reduceEqDiff, Nat.reduceAdd, Int.reduceLT, Int.reduceLE, Int.reduceNeg, Int.reduceBEq, Int.reduceBNe, Int.reduceEq, Nat.reduceLeDiff, Nat.reduceMul, Nat.reduceLT, *, hlk.1]
    | simp (singlePass := true) (maxDischargeDepth := 99) only [*, S2, Nat.reduceLT, hlk.1])
      simp only [sliceX, Int.toNat_natCast]
      refine need ⟨hsl, by omega, by omega, by omega⟩ ?_
      (repeat' first
    | ((with_reducible refine at_row ?_); refine row1_a fun _ _ _ _ _ _ _ => ?_)
    | with_reducible first | (first | apply alloc_k | apply row_k); intro _ _ _ _ _ _ | (first | apply fork | apply forkp) <;> intro _ | refine forke (fun _ => ?_) fun _ _ => ?_ | refine tail_k fun _ _ _ => ?_ | refine ext_k fun _ _ _ => ?_ | refine need_a ?_ | refine st_agg KR rfl ON fun _ _ _ _ => ?_ | refine wpd_q_a ?_
    | simp (maxDischargeDepth := 3) only [↓X, ↓Y, ↓Q, S1, ↓reduceIte, Nat.reduceEqDiff, Nat.reduceAdd, Int.reduceLT, Int.reduceLE, Int.reduceNeg, Int.reduceBEq, Int.reduceBNe, Int.reduceEq, Nat.reduceLeDiff, Nat.reduceMul, Nat.reduceLT, *]
    | simp (singlePass := true) (maxDischargeDepth := 99) only [*, S2, Nat.reduceLT])
      refine own_clear_c (n := j) (by_ := 16) (z := .agg #[.int .i64 0, .int .i64 0]) KR KR rfl (by decide) hownk (by simp only [List.length_map, hlen]; omega) hbl.size hlk.1.symm fun w9 n9 hown9 hb9 hcl => ?_
      (repeat' first
    | ((with_reducible refine at_row ?_); refine row1_a fun _ _ _ _ _ _ _ => ?_)
    | with_reducible first | (first | apply alloc_k | apply row_k); intro _ _ _ _ _ _ | (first | apply fork | apply forkp) <;> intro _ | refine forke (fun _ => ?_) fun _ _ => ?_ | refine tail_k fun _ _ _ => ?_ | refine ext_k fun _ _ _ => ?_ | refine need_a ?_ | refine st_agg KR rfl ON fun _ _ _ _ => ?_ | refine wpd_q_a ?_
    | simp (maxDischargeDepth := 3) only [↓X, ↓Y, ↓Q, S1, ↓reduceIte, Nat.reduceEqDiff, Nat.reduceAdd, Int.reduceLT, Int.reduceLE, Int.reduceNeg, Int.reduceBEq, Int.reduceBNe, Int.reduceEq, Nat.reduceLeDiff, Nat.reduceMul, Nat.reduceLT, *]
    | simp (singlePass := true) (maxDischargeDepth := 99) only [*, S2, Nat.reduceLT])
      simp only [sliceX, Int.toNat_natCast]
      refine need ⟨hsl, by omega, by omega⟩ ?_
      (repeat' first
    | ((with_reducible refine at_row ?_); refine row1_a fun _ _ _ _ _ _ _ => ?_)
    | with_reducible first | (first | apply alloc_k | apply row_k); intro _ _ _ _ _ _ | (first | apply fork | apply forkp) <;> intro _ | refine forke (fun _ => ?_) fun _ _ => ?_ | refine tail_k fun _ _ _ => ?_ | refine ext_k fun _ _ _ => ?_ | refine need_a ?_ | refine st_agg KR rfl ON fun _ _ _ _ => ?_ | refine wpd_q_a ?_
    | simp (maxDischargeDepth := 3) only [↓X, ↓Y, ↓Q, S1, ↓reduceIte, Nat.reduceEqDiff, Nat.reduceAdd, Int.reduceLT, Int.reduceLE, Int.reduceNeg, Int.reduceBEq, Int.reduceBNe, Int.reduceEq, Nat.reduceLeDiff, Nat.reduceMul, Nat.reduceLT, *]
    | simp (singlePass := true) (maxDischargeDepth := 99) only [*, S2, Nat.reduceLT])
      refine ⟨hbl.2.trans hb9, ⟨gb, .inl hg0.out, hcg.trans_chg (hcl gb hg0.out) (.inl rfl)⟩, ?_⟩
      rw [List.map_append, List.map_append, List.append_assoc, List.take_left' (by rw [List.length_map]; exact hkl)] at hown9
      exact hown9
end
end Go.Proofs.YtblegjdogmcgbaaGreat
