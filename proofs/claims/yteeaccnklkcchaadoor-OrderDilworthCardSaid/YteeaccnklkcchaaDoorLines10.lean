
/- The layer order: Enabled, Height, Count. -/
import Derived.Test.YteeaccnklkcchaaDoorWays10
namespace Go.Proofs.YteeaccnklkcchaaDoor
set_option linter.unusedSimpArgs false
set_option linter.unusedVariables false
open Go Go.RowKit
set_option maxRecDepth 100000
set_option linter.unusedSectionVars false
set_option maxHeartbeats 2000000
/-- What Enabled hands back. -/
def enabE (e : Int) (n : Nat) (ds : List Nat) (x : Int) : List Nat × Int := if e = 0 then (if 0 ≤ x ∧ x < ((2 ^ n : Nat) : Int) then (if idealD ds x.toNat then (lst (rdyF x.toNat 0 ds), 0) else ([], 13)) else ([], 2)) else ([], e)
def countE (e : Int) (ds : List Nat) : Nat × Int := if e = 0 then (wayS ds 0, 0) else (0, e)
section
variable {w w' : World} {B b : Nat} {nv vd va v : Value} {ds al : List Nat} {s : Nat}
variable {vs : List Value} {after : List (List Int)}
theorem orderEnabled {x : Int} (hT : TabW w) (hB : B ≤ w.heap.size) (hv : LLR w B v vs after) : CallsV Tryd.prog 16 #[v, intV x] w fun r w' => Ext w w' ∧ ∃ o, r = .tuple #[o, intV (enabE (ofS after).1 after.length (ofS after).2.1 x).2] ∧ Own w' w.heap.size 3 1 o ((enabE (ofS after).1 after.length (ofS after).2.1 x).1.map natC) := by
  have hn : Now w := trivial
  have hx : Ext w w := Ext.refl w
  have hT' := fun w' (h : Ext w w') => hT.ext h
  have hV := fun w' (h : Bl B w w') => hv.blz h
  have hbw : Bl B w w := Bl.refl hB
  have hok : (ofS after).1 = 0 → Hid (after.length ≤ 12 ∧ (ofS after).2.1.length = after.length ∧ (ofS after).2.2.length = after.length ∧ (∀ x, (ofS after).2.1.getD x 0 < 4096) ∧ ∀ x, (ofS after).2.2.getD x 0 < 4096) := fun h => by
    obtain ⟨h1, _, h3, _, h5, _, _, _, h9, h10⟩ := ord_ok h
    exact ⟨h1, h3, h5, h9, h10⟩
  replace hV : Hid _ := hV
  have hof := fun w' (h1 : Bl B w w') (h2 : Ext w w') (h3 : B ≤ w'.heap.size) => orderOf (hT' w' h2) h3 (hV.out w' h1)
  unfold OfR at hof
  replace hof : Hid _ := hof
  generalize ofS after = S at *
  obtain ⟨e, ds, al⟩ := S
  simp only at hok hof ⊢
  (refine callsV_of Tryd.func16 rfl KR KR ?_; rw [Tryd.results16])
  (repeat' first
    | ((with_reducible refine at_row ?_); refine row1_a fun _ _ _ _ _ _ _ => ?_)
    | with_reducible first | (first | apply alloc_k | apply row_k); intro _ _ _ _ _ _ | (first | apply fork | apply forkp) <;> intro _ | refine forke (fun _ => ?_) fun _ _ => ?_ | refine tail_k fun _ _ _ => ?_ | refine ext_k fun _ _ _ => ?_ | refine need_a ?_ | refine st_agg KR rfl ON fun _ _ _ _ => ?_ | refine wpd_q_a ?_
    | simp (maxDischargeDepth := 3) only [↓X, ↓Y, ↓Q, S1, ↓reduceIte, Nat.reduceEqDiff, Nat.reduceAdd, Int.reduceLT, Int.reduceLE, Int.reduceNeg, Int.reduceBEq, Int.reduceBNe, Int.reduceEq, Nat.reduceLeDiff, Nat.reduceMul, Nat.reduceLT, *]
    | simp (singlePass := true) (maxDischargeDepth := 99) only [*, S2, Nat.reduceLT])
  refine call_k (hof.out _ FR FR FR) ?_
  rintro _ w1 n1 s1 ⟨nv, vd, va, rfl, hone, hrow⟩
  obtain ⟨o1, o2, o3⟩ := hone
  by_cases h0 : e = 0
  rotate_left
  · have e1 : (e == 0) = false := by simpa using h0
    have e2 : (e != 0) = true := by simpa using h0
    clear hok hrow
    (repeat' first
    | ((with_reducible refine at_row ?_); refine row1_a fun _ _ _ _ _ _ _ => ?_)
    | with_reducible first | (first | apply alloc_k | apply row_k); intro _ _ _ _ _ _ | (first | apply fork | apply forkp) <;> intro _ | refine forke (fun _ => ?_) fun _ _ => ?_ | refine tail_k fun _ _ _ => ?_ | refine ext_k fun _ _ _ => ?_ | refine need_a ?_ | refine st_agg KR rfl ON fun _ _ _ _ => ?_ | refine wpd_q_a ?_
    | simp (maxDischargeDepth := 3) only [↓X, ↓Y, ↓Q, S1, ↓reduceIte, Nat.reduceEqDiff, Nat.reduceAdd, Int.reduceLT, Int.reduceLE, Int.reduceNeg, Int.reduceBEq, Int.reduceBNe, Int.reduceEq, Nat.reduceLeDiff, Nat.reduceMul, Nat.reduceLT, *]
    | simp (singlePass := true) (maxDischargeDepth := 99) only [*, S2, Nat.reduceLT])
    rw [enabE, if_neg h0]
    exact ⟨_, rfl, Own.nil _ _ _ _⟩
  subst h0
  obtain ⟨h12, hdn, han, hdl, hbl⟩ := (hok rfl).out
  obtain ⟨rfl, hvd, hva⟩ := hrow rfl
  have KD := hvd.k (Nat.le_refl _)
  have KA := hva.k (Nat.le_refl _)
  have hpow := two_pow_le h12
  clear hok hrow
  rw [← hdn] at hpow
  have hD := fun w' (h : Bl w1.heap.size w1 w') => hvd.bl h
  replace hD : Hid _ := hD
  have b1 : Bl w1.heap.size w1 w1 := Bl.refl (Nat.le_refl _)
  by_cases hx1 : 0 ≤ x ∧ x < ((2 ^ after.length : Nat) : Int)
  · obtain ⟨y, rfl⟩ : ∃ y : Nat, x = y := ⟨x.toNat, by omega⟩
    have hy : y < 2 ^ ds.length := by rw [hdn]; omega
    have hrl := rdyF_lt y ds 0
    rw [Nat.zero_add] at hrl
    have hdm : ∀ d ∈ ds, d < 4096 := fun d hd => by obtain ⟨i, hi, rfl⟩ := List.getElem_of_mem hd; rw [getN hi]; exact hdl i
    have e9 : enabE 0 after.length ds (y : Int) = if idealD ds y then (lst (rdyF y 0 ds), 0) else ([], 13) := by rw [enabE, if_pos rfl, if_pos hx1]; rfl
    rw [e9]
    have hy' : y < 2 ^ after.length := by omega
    clear hx1 e9 hvd hva
    cases hid : idealD ds y
    · (repeat' first
    | ((with_reducible refine at_row ?_); refine row1_a fun _ _ _ _ _ _ _ => ?_)
    | with_reducible first | (first | apply alloc_k | apply row_k); intro _ _ _ _ _ _ | (first | apply fork | apply forkp) <;> intro _ | refine forke (fun _ => ?_) fun _ _ => ?_ | refine tail_k fun _ _ _ => ?_ | refine ext_k fun _ _ _ => ?_ | refine need_a ?_ | refine st_agg KR rfl ON fun _ _ _ _ => ?_ | refine wpd_q_a ?_
    | ((with_reducible refine at_f 50 ?_); refine ret_k (orderInside (x := (y : Int)) h12) fun _ _ _ => ?_)
    | ((with_reducible refine at_f 51 ?_); refine ret_k (orderIdealP (B := w1.heap.size) (s := y) (hT' _ FR) FR (hD.out _ FR) hdl (by omega) hy) fun _ _ _ => ?_)
    | simp (maxDischargeDepth := 3) only [↓X, ↓Y, ↓Q, S1, ↓reduceIte, Nat.reduceEqDiff, Nat.reduceAdd, Int.reduceLT, Int.reduceLE, Int.reduceNeg, Int.reduceBEq, Int.reduceBNe, Int.reduceEq, Nat.reduceLeDiff, Nat.reduceMul, Nat.reduceLT, *, hid]
    | simp (singlePass := true) (maxDischargeDepth := 99) only [*, S2, Nat.reduceLT, hid])
      exact ⟨_, rfl, Own.nil _ _ _ _⟩
    · (repeat' first
    | ((with_reducible refine at_row ?_); refine row1_a fun _ _ _ _ _ _ _ => ?_)
    | with_reducible first | (first | apply alloc_k | apply row_k); intro _ _ _ _ _ _ | (first | apply fork | apply forkp) <;> intro _ | refine forke (fun _ => ?_) fun _ _ => ?_ | refine tail_k fun _ _ _ => ?_ | refine ext_k fun _ _ _ => ?_ | refine need_a ?_ | refine st_agg KR rfl ON fun _ _ _ _ => ?_ | refine wpd_q_a ?_
    | ((with_reducible refine at_f 50 ?_); refine ret_k (orderInside (x := (y : Int)) h12) fun _ _ _ => ?_)
    | ((with_reducible refine at_f 51 ?_); refine ret_k (orderIdealP (B := w1.heap.size) (s := y) (hT' _ FR) FR (hD.out _ FR) hdl (by omega) hy) fun _ _ _ => ?_)
    | ((with_reducible refine at_f 53 ?_); refine ret_k (orderReady (B := w1.heap.size) FR (hD.out _ FR) hdm (by omega) (show y < 4096 by omega)) fun _ _ _ => ?_)
    | simp (maxDischargeDepth := 3) only [↓X, ↓Y, ↓Q, S1, ↓reduceIte, Nat.reduceEqDiff, Nat.reduceAdd, Int.reduceLT, Int.reduceLE, Int.reduceNeg, Int.reduceBEq, Int.reduceBNe, Int.reduceEq, Nat.reduceLeDiff, Nat.reduceMul, Nat.reduceLT, *, hid]
    | simp (singlePass := true) (maxDischargeDepth := 99) only [*, S2, Nat.reduceLT, hid])
      refine call_k (orderList (s := rdyF y 0 ds) (hT' _ FR) (by omega)) ?_
      intro u w8 n8 s8 hu
      have O := hu.o
      clear hu
      (repeat' first
    | ((with_reducible refine at_row ?_); refine row1_a fun _ _ _ _ _ _ _ => ?_)
    | with_reducible first | (first | apply alloc_k | apply row_k); intro _ _ _ _ _ _ | (first | apply fork | apply forkp) <;> intro _ | refine forke (fun _ => ?_) fun _ _ => ?_ | refine tail_k fun _ _ _ => ?_ | refine ext_k fun _ _ _ => ?_ | refine need_a ?_ | refine st_agg KR rfl ON fun _ _ _ _ => ?_ | refine wpd_q_a ?_
    | simp (maxDischargeDepth := 3) only [↓X, ↓Y, ↓Q, S1, ↓reduceIte, Nat.reduceEqDiff, Nat.reduceAdd, Int.reduceLT, Int.reduceLE, Int.reduceNeg, Int.reduceBEq, Int.reduceBNe, Int.reduceEq, Nat.reduceLeDiff, Nat.reduceMul, Nat.reduceLT, *]
    | simp (singlePass := true) (maxDischargeDepth := 99) only [*, S2, Nat.reduceLT])
      exact ⟨_, rfl, (O.1 _ FR).more FR⟩
  · have c1 : (decide (0 ≤ x) && decide (x < ((2 ^ after.length : Nat) : Int))) = false := by rw [← Bool.not_eq_true, Bool.and_eq_true, decide_eq_true_eq, decide_eq_true_eq]; exact hx1
    have e9 : enabE 0 after.length ds x = ([], 2) := by rw [enabE, if_pos rfl, if_neg hx1]
    rw [e9]
    (repeat' first
    | ((with_reducible refine at_row ?_); refine row1_a fun _ _ _ _ _ _ _ => ?_)
    | with_reducible first | (first | apply alloc_k | apply row_k); intro _ _ _ _ _ _ | (first | apply fork | apply forkp) <;> intro _ | refine forke (fun _ => ?_) fun _ _ => ?_ | refine tail_k fun _ _ _ => ?_ | refine ext_k fun _ _ _ => ?_ | refine need_a ?_ | refine st_agg KR rfl ON fun _ _ _ _ => ?_ | refine wpd_q_a ?_
    | ((with_reducible refine at_f 50 ?_); refine ret_k (orderInside h12) fun _ _ _ => ?_)
    | simp (maxDischargeDepth := 3) only [↓X, ↓Y, ↓Q, S1, ↓reduceIte, Nat.reduceEqDiff, Nat.reduceAdd, Int.reduceLT, Int.reduceLE, Int.reduceNeg, Int.reduceBEq, Int.reduceBNe, Int.reduceEq, Nat.reduceLeDiff, Nat.reduceMul, Nat.reduceLT, *]
    | simp (singlePass := true) (maxDischargeDepth := 99) only [*, S2, Nat.reduceLT])
    exact ⟨_, rfl, Own.nil _ _ _ _⟩
theorem orderCount (hT : TabW w) (hB : B ≤ w.heap.size) (hv : LLR w B v vs after) : Ret Tryd.prog 17 #[v] w (.tuple #[natV (countE (ofS after).1 (ofS after).2.1).1, intV (countE (ofS after).1 (ofS after).2.1).2]) := by
  have hn : Now w := trivial
  have hx : Ext w w := Ext.refl w
  have hT' := fun w' (h : Ext w w') => hT.ext h
  have hV := fun w' (h : Bl B w w') => hv.blz h
  have hbw : Bl B w w := Bl.refl hB
  have hok : (ofS after).1 = 0 → Hid (after.length ≤ 12 ∧ (ofS after).2.1.length = after.length ∧ (ofS after).2.2.length = after.length ∧ (∀ x, (ofS after).2.1.getD x 0 < 4096) ∧ ∀ x, (ofS after).2.2.getD x 0 < 4096) := fun h => by
    obtain ⟨h1, _, h3, _, h5, _, _, _, h9, h10⟩ := ord_ok h
    exact ⟨h1, h3, h5, h9, h10⟩
  replace hV : Hid _ := hV
  have hof := fun w' (h1 : Bl B w w') (h2 : Ext w w') (h3 : B ≤ w'.heap.size) => orderOf (hT' w' h2) h3 (hV.out w' h1)
  unfold OfR at hof
  replace hof : Hid _ := hof
  generalize ofS after = S at *
  obtain ⟨e, ds, al⟩ := S
  simp only at hok hof ⊢
  (refine callsV_of Tryd.func17 rfl KR KR ?_; rw [Tryd.results17])
  (repeat' first
    | ((with_reducible refine at_row ?_); refine row1_a fun _ _ _ _ _ _ _ => ?_)
    | with_reducible first | (first | apply alloc_k | apply row_k); intro _ _ _ _ _ _ | (first | apply fork | apply forkp) <;> intro _ | refine forke (fun _ => ?_) fun _ _ => ?_ | refine tail_k fun _ _ _ => ?_ | refine ext_k fun _ _ _ => ?_ | refine need_a ?_ | refine st_agg KR rfl ON fun _ _ _ _ => ?_ | refine wpd_q_a ?_
    | simp (maxDischargeDepth := 3) only [↓X, ↓Y, ↓Q, S1, ↓reduceIte, Nat.reduceEqDiff, Nat.reduceAdd, Int.reduceLT, Int.reduceLE, Int.reduceNeg, Int.reduceBEq, Int.reduceBNe, Int.reduceEq, Nat.reduceLeDiff, Nat.reduceMul, Nat.reduceLT, *]
    | simp (singlePass := true) (maxDischargeDepth := 99) only [*, S2, Nat.reduceLT])
  refine call_k (hof.out _ FR FR FR) ?_
  rintro _ w1 n1 s1 ⟨nv, vd, va, rfl, hone, hrow⟩
  obtain ⟨o1, o2, o3⟩ := hone
  by_cases h0 : e = 0
  rotate_left
  · have e1 : (e == 0) = false := by simpa using h0
    have e2 : (e != 0) = true := by simpa using h0
    clear hok hrow
    (repeat' first
    | ((with_reducible refine at_row ?_); refine row1_a fun _ _ _ _ _ _ _ => ?_)
    | with_reducible first | (first | apply alloc_k | apply row_k); intro _ _ _ _ _ _ | (first | apply fork | apply forkp) <;> intro _ | refine forke (fun _ => ?_) fun _ _ => ?_ | refine tail_k fun _ _ _ => ?_ | refine ext_k fun _ _ _ => ?_ | refine need_a ?_ | refine st_agg KR rfl ON fun _ _ _ _ => ?_ | refine wpd_q_a ?_
    | simp (maxDischargeDepth := 3) only [↓X, ↓Y, ↓Q, S1, ↓reduceIte, Nat.reduceEqDiff, Nat.reduceAdd, Int.reduceLT, Int.reduceLE, Int.reduceNeg, Int.reduceBEq, Int.reduceBNe, Int.reduceEq, Nat.reduceLeDiff, Nat.reduceMul, Nat.reduceLT, *]
    | simp (singlePass := true) (maxDischargeDepth := 99) only [*, S2, Nat.reduceLT])
    rw [countE, if_neg h0]
    rfl
  subst h0
  obtain ⟨h12, hdn, han, hdl, hbl⟩ := (hok rfl).out
  obtain ⟨rfl, hvd, hva⟩ := hrow rfl
  have KD := hvd.k (Nat.le_refl _)
  have KA := hva.k (Nat.le_refl _)
  have hpow := two_pow_le h12
  clear hok hrow
  rw [countE, if_pos rfl]
  have hD := fun w' (h : Bl w1.heap.size w1 w') => hvd.bl h
  replace hD : Hid _ := hD
  have b1 : Bl w1.heap.size w1 w1 := Bl.refl (Nat.le_refl _)
  have hw2 := (hT' w1 FR).two
  have h12d : ds.length ≤ 12 := by omega
  have h0d := Nat.pow_pos (n := ds.length) (show 0 < 2 by decide)
  (repeat' first
    | ((with_reducible refine at_row ?_); refine row1_a fun _ _ _ _ _ _ _ => ?_)
    | with_reducible first | (first | apply alloc_k | apply row_k); intro _ _ _ _ _ _ | (first | apply fork | apply forkp) <;> intro _ | refine forke (fun _ => ?_) fun _ _ => ?_ | refine tail_k fun _ _ _ => ?_ | refine ext_k fun _ _ _ => ?_ | refine need_a ?_ | refine st_agg KR rfl ON fun _ _ _ _ => ?_ | refine wpd_q_a ?_
    | simp (maxDischargeDepth := 3) only [↓X, ↓Y, ↓Q, S1, ↓reduceIte, Nat.reduceEqDiff, Nat.reduceAdd, Int.reduceLT, Int.reduceLE, Int.reduceNeg, Int.reduceBEq, Int.reduceBNe, Int.reduceEq, Nat.reduceLeDiff, Nat.reduceMul, Nat.reduceLT, *]
    | simp (singlePass := true) (maxDischargeDepth := 99) only [*, S2, Nat.reduceLT])
  refine call_k (orderWays (B := w1.heap.size) hdn (hT' _ FR) FR hw2 h12d (hD.out _ FR) o2 o3) ?_
  rintro _ w5 n5 s5 ⟨bm, q1, q2, q3, rfl, hW, hbm⟩
  have hcal : callable Tryd.prog 68 = true := by kernel_rfl
  have hwb : w.heap.size ≤ bm := Nat.le_trans FR hbm
  (repeat' first
    | ((with_reducible refine at_row ?_); refine row1_a fun _ _ _ _ _ _ _ => ?_)
    | with_reducible first | (first | apply alloc_k | apply row_k); intro _ _ _ _ _ _ | (first | apply fork | apply forkp) <;> intro _ | refine forke (fun _ => ?_) fun _ _ => ?_ | refine tail_k fun _ _ _ => ?_ | refine ext_k fun _ _ _ => ?_ | refine need_a ?_ | refine st_agg KR rfl ON fun _ _ _ _ => ?_ | refine wpd_q_a ?_
    | simp (maxDischargeDepth := 3) only [↓X, ↓Y, ↓Q, S1, ↓reduceIte, Nat.reduceEqDiff, Nat.reduceAdd, Int.reduceLT, Int.reduceLE, Int.reduceNeg, Int.reduceBEq, Int.reduceBNe, Int.reduceEq, Nat.reduceLeDiff, Nat.reduceMul, Nat.reduceLT, *, wayV]
    | simp (singlePass := true) (maxDischargeDepth := 99) only [*, S2, Nat.reduceLT, wayV])
  refine way_k (s := 0) h12d hdl hW h0d fun w6 n6 s6 hE => ?_
  (repeat' first
    | ((with_reducible refine at_row ?_); refine row1_a fun _ _ _ _ _ _ _ => ?_)
    | with_reducible first | (first | apply alloc_k | apply row_k); intro _ _ _ _ _ _ | (first | apply fork | apply forkp) <;> intro _ | refine forke (fun _ => ?_) fun _ _ => ?_ | refine tail_k fun _ _ _ => ?_ | refine ext_k fun _ _ _ => ?_ | refine need_a ?_ | refine st_agg KR rfl ON fun _ _ _ _ => ?_ | refine wpd_q_a ?_
    | simp (maxDischargeDepth := 3) only [↓X, ↓Y, ↓Q, S1, ↓reduceIte, Nat.reduceEqDiff, Nat.reduceAdd, Int.reduceLT, Int.reduceLE, Int.reduceNeg, Int.reduceBEq, Int.reduceBNe, Int.reduceEq, Nat.reduceLeDiff, Nat.reduceMul, Nat.reduceLT, *]
    | simp (singlePass := true) (maxDischargeDepth := 99) only [*, S2, Nat.reduceLT])
theorem heightN_le (ds : List Nat) (n : Nat) : ∀ f done, heightN ds n f done ≤ f
  | 0, _ => Nat.le_refl _
  | f + 1, done => by
    unfold heightN
    split
    · omega
    · have := heightN_le ds n f (done ||| rdyF done 0 ds)
      omega
def heightE (e : Int) (n : Nat) (ds : List Nat) : Nat × Int := if e = 0 then (heightN ds n 4096 0, 0) else (0, e)
theorem orderHeight (hT : TabW w) (hB : B ≤ w.heap.size) (hv : LLR w B v vs after) : Ret Tryd.prog 20 #[v] w (.tuple #[natV (heightE (ofS after).1 after.length (ofS after).2.1).1, intV (heightE (ofS after).1 after.length (ofS after).2.1).2]) := by
  have hkk : (ofS after).1 = 0 → ∃ all, (kahn (ofS after).2.1 after.length 4096 0 all).1 = 0 := fun h => by
    obtain ⟨_, ds, hd, hk⟩ := ofS_ok h
    obtain ⟨ds', hd', _, _, he⟩ := clos_eq h
    obtain rfl := Option.some.inj (hd.symm.trans hd')
    rw [he]
    exact ⟨_, hk⟩
  have hn : Now w := trivial
  have hx : Ext w w := Ext.refl w
  have hT' := fun w' (h : Ext w w') => hT.ext h
  have hV := fun w' (h : Bl B w w') => hv.blz h
  have hbw : Bl B w w := Bl.refl hB
  have hok : (ofS after).1 = 0 → Hid (after.length ≤ 12 ∧ (ofS after).2.1.length = after.length ∧ (ofS after).2.2.length = after.length ∧ (∀ x, (ofS after).2.1.getD x 0 < 4096) ∧ ∀ x, (ofS after).2.2.getD x 0 < 4096) := fun h => by
    obtain ⟨h1, _, h3, _, h5, _, _, _, h9, h10⟩ := ord_ok h
    exact ⟨h1, h3, h5, h9, h10⟩
  replace hV : Hid _ := hV
  have hof := fun w' (h1 : Bl B w w') (h2 : Ext w w') (h3 : B ≤ w'.heap.size) => orderOf (hT' w' h2) h3 (hV.out w' h1)
  unfold OfR at hof
  replace hof : Hid _ := hof
  generalize ofS after = S at *
  obtain ⟨e, ds, al⟩ := S
  simp only at hok hof ⊢
  (refine callsV_of Tryd.func20 rfl KR KR ?_; rw [Tryd.results20])
  (repeat' first
    | ((with_reducible refine at_row ?_); refine row1_a fun _ _ _ _ _ _ _ => ?_)
    | with_reducible first | (first | apply alloc_k | apply row_k); intro _ _ _ _ _ _ | (first | apply fork | apply forkp) <;> intro _ | refine forke (fun _ => ?_) fun _ _ => ?_ | refine tail_k fun _ _ _ => ?_ | refine ext_k fun _ _ _ => ?_ | refine need_a ?_ | refine st_agg KR rfl ON fun _ _ _ _ => ?_ | refine wpd_q_a ?_
    | simp (maxDischargeDepth := 3) only [↓X, ↓Y, ↓Q, S1, ↓reduceIte, Nat.reduceEqDiff, Nat.reduceAdd, Int.reduceLT, Int.reduceLE, Int.reduceNeg, Int.reduceBEq, Int.reduceBNe, Int.reduceEq, Nat.reduceLeDiff, Nat.reduceMul, Nat.reduceLT, *]
    | simp (singlePass := true) (maxDischargeDepth := 99) only [*, S2, Nat.reduceLT])
  refine call_k (hof.out _ FR FR FR) ?_
  rintro _ w1 n1 s1 ⟨nv, vd, va, rfl, hone, hrow⟩
  obtain ⟨o1, o2, o3⟩ := hone
  by_cases h0 : e = 0
  rotate_left
  · have e1 : (e == 0) = false := by simpa using h0
    have e2 : (e != 0) = true := by simpa using h0
    clear hok hrow
    (repeat' first
    | ((with_reducible refine at_row ?_); refine row1_a fun _ _ _ _ _ _ _ => ?_)
    | with_reducible first | (first | apply alloc_k | apply row_k); intro _ _ _ _ _ _ | (first | apply fork | apply forkp) <;> intro _ | refine forke (fun _ => ?_) fun _ _ => ?_ | refine tail_k fun _ _ _ => ?_ | refine ext_k fun _ _ _ => ?_ | refine need_a ?_ | refine st_agg KR rfl ON fun _ _ _ _ => ?_ | refine wpd_q_a ?_
    | simp (maxDischargeDepth := 3) only [↓X, ↓Y, ↓Q, S1, ↓reduceIte, Nat.reduceEqDiff, Nat.reduceAdd, Int.reduceLT, Int.reduceLE, Int.reduceNeg, Int.reduceBEq, Int.reduceBNe, Int.reduceEq, Nat.reduceLeDiff, Nat.reduceMul, Nat.reduceLT, *]
    | simp (singlePass := true) (maxDischargeDepth := 99) only [*, S2, Nat.reduceLT])
    rw [heightE, if_neg h0]
    rfl
  subst h0
  obtain ⟨h12, hdn, han, hdl, hbl⟩ := (hok rfl).out
  obtain ⟨rfl, hvd, hva⟩ := hrow rfl
  have KD := hvd.k (Nat.le_refl _)
  have KA := hva.k (Nat.le_refl _)
  have hpow := two_pow_le h12
  clear hok hrow
  rw [heightE, if_pos rfl]
  obtain ⟨all0, hk0⟩ := hkk rfl
  have hD := fun w' (h : Bl w1.heap.size w1 w') => hvd.bl h
  replace hD : Hid _ := hD
  have hdm : ∀ d ∈ ds, d < 4096 := fun d hd => by obtain ⟨i, hi, rfl⟩ := List.getElem_of_mem hd; rw [getN hi]; exact hdl i
  replace hdm : Hid _ := hdm
  have b1 : Bl w1.heap.size w1 w1 := Bl.refl (Nat.le_refl _)
  have h12d : ds.length ≤ 12 := by omega
  have e1 := shlI_nat (k := after.length) (by omega)
  have hpp := Nat.pow_pos (n := after.length) (show 0 < 2 by decide)
  have hw1 : IntKind.i64.wrap (((2 ^ after.length : Nat) : Int) - 1) = ((2 ^ after.length - 1 : Nat) : Int) := by
    rw [show ((2 ^ after.length : Nat) : Int) - 1 = ((2 ^ after.length - 1 : Nat) : Int) by omega, wrap_nat (by omega)]
  have hle := heightN_le ds after.length 4096 0
  clear hkk hvd hva
  generalize hH : heightN ds after.length 4096 0 = H at *
  (repeat' first
    | ((with_reducible refine at_row ?_); refine row1_a fun _ _ _ _ _ _ _ => ?_)
    | with_reducible first | (first | apply alloc_k | apply row_k); intro _ _ _ _ _ _ | (first | apply fork | apply forkp) <;> intro _ | refine forke (fun _ => ?_) fun _ _ => ?_ | refine tail_k fun _ _ _ => ?_ | refine ext_k fun _ _ _ => ?_ | refine need_a ?_ | refine st_agg KR rfl ON fun _ _ _ _ => ?_ | refine wpd_q_a ?_
    | simp (maxDischargeDepth := 3) only [↓X, ↓Y, ↓Q, S1, ↓reduceIte, Nat.reduceEqDiff, Nat.reduceAdd, Int.reduceLT, Int.reduceLE, Int.reduceNeg, Int.reduceBEq, Int.reduceBNe, Int.reduceEq, Nat.reduceLeDiff, Nat.reduceMul, Nat.reduceLT, *]
    | simp (singlePass := true) (maxDischargeDepth := 99) only [*, S2, Nat.reduceLT])
  refine loop_k H (fun g0 k g w' => g 6 = .int .i64 k ∧ (g 4 = g0 4) ∧ ∃ d : Nat, g 7 = .int .i64 d ∧ Hid (d < 2 ^ after.length ∧ heightN ds after.length (4096 - k) d = H - k ∧ ∃ all, (kahn ds after.length (4096 - k) d all).1 = 0)) KR (by omega) ?_ ?_ ?_
  · (repeat' first
    | ((with_reducible refine at_row ?_); refine row1_a fun _ _ _ _ _ _ _ => ?_)
    | with_reducible first | (first | apply alloc_k | apply row_k); intro _ _ _ _ _ _ | (first | apply fork | apply forkp) <;> intro _ | refine forke (fun _ => ?_) fun _ _ => ?_ | refine tail_k fun _ _ _ => ?_ | refine ext_k fun _ _ _ => ?_ | refine need_a ?_ | refine st_agg KR rfl ON fun _ _ _ _ => ?_ | refine wpd_q_a ?_
    | simp (maxDischargeDepth := 3) only [↓X, ↓Y, ↓Q, S1, ↓reduceIte, Nat.reduceEqDiff, Nat.reduceAdd, Int.reduceLT, Int.reduceLE, Int.reduceNeg, Int.reduceBEq, Int.reduceBNe, Int.reduceEq, Nat.reduceLeDiff, Nat.reduceMul, Nat.reduceLT, *]
    | simp (singlePass := true) (maxDischargeDepth := 99) only [*, S2, Nat.reduceLT])
    exact ⟨0, rfl, hpp, hH, all0, hk0⟩
  · rintro k m g wk hk hlt nk sk bk hw ⟨hi, hf, d, h7, hp⟩
    simp (maxDischargeDepth := 3) only [U, ↓reduceIte, Nat.reduceEqDiff, *] at hf
    obtain ⟨hd, hh, all, hka⟩ := hp.out
    obtain ⟨f, hff⟩ : ∃ f, 4096 - k = f + 1 := ⟨4096 - k - 1, by omega⟩
    rw [hff] at hh hka
    unfold heightN at hh
    unfold kahn at hka
    have hne : d ≠ 2 ^ after.length - 1 := by
      intro e
      rw [if_pos e] at hh
      omega
    rw [if_neg hne] at hh hka
    simp only at hka
    have hr0 : rdyF d 0 ds ≠ 0 := by
      intro e
      rw [if_pos e] at hka
      cases hka
    rw [if_neg hr0] at hka
    have hrl := rdyF_lt d ds 0
    rw [Nat.zero_add, hdn] at hrl
    have hor : d ||| rdyF d 0 ds < 2 ^ after.length := Nat.or_lt_two_pow hd hrl
    have e2 := orI_nat (a := d) (b := rdyF d 0 ds) (by omega) (by omega)
    have hnz : ((d : Int) != ((2 ^ after.length - 1 : Nat) : Int)) = true := by simp; omega
    have hnx : Hid (heightN ds after.length (4096 - (k + 1)) (d ||| rdyF d 0 ds) = H - (k + 1) ∧ ∃ all, (kahn ds after.length (4096 - (k + 1)) (d ||| rdyF d 0 ds) all).1 = 0) := by
      rw [show 4096 - (k + 1) = f by omega]
      exact ⟨by omega, _, hka⟩
    clear hka hh
    (repeat' first
    | ((with_reducible refine at_row ?_); refine row1_a fun _ _ _ _ _ _ _ => ?_)
    | with_reducible first | (first | apply alloc_k | apply row_k); intro _ _ _ _ _ _ | (first | apply fork | apply forkp) <;> intro _ | refine forke (fun _ => ?_) fun _ _ => ?_ | refine tail_k fun _ _ _ => ?_ | refine ext_k fun _ _ _ => ?_ | refine need_a ?_ | refine st_agg KR rfl ON fun _ _ _ _ => ?_ | refine wpd_q_a ?_
    | ((with_reducible refine at_f 53 ?_); refine ret_k (orderReady (B := w1.heap.size) FR (hD.out _ FR) hdm.out (by omega) (show d < 4096 by omega)) fun _ _ _ => ?_)
    | simp (maxDischargeDepth := 3) only [↓X, ↓Y, ↓Q, S1, ↓reduceIte, Nat.reduceEqDiff, Nat.reduceAdd, Int.reduceLT, Int.reduceLE, Int.reduceNeg, Int.reduceBEq, Int.reduceBNe, Int.reduceEq, Nat.reduceLeDiff, Nat.reduceMul, Nat.reduceLT, *]
    | simp (singlePass := true) (maxDischargeDepth := 99) only [*, S2, Nat.reduceLT])
    refine next_k hk hlt ?_ FR
    (repeat' first
    | ((with_reducible refine at_row ?_); refine row1_a fun _ _ _ _ _ _ _ => ?_)
    | with_reducible first | (first | apply alloc_k | apply row_k); intro _ _ _ _ _ _ | (first | apply fork | apply forkp) <;> intro _ | refine forke (fun _ => ?_) fun _ _ => ?_ | refine tail_k fun _ _ _ => ?_ | refine ext_k fun _ _ _ => ?_ | refine need_a ?_ | refine st_agg KR rfl ON fun _ _ _ _ => ?_ | refine wpd_q_a ?_
    | simp (maxDischargeDepth := 3) only [↓X, ↓Y, ↓Q, S1, ↓reduceIte, Nat.reduceEqDiff, Nat.reduceAdd, Int.reduceLT, Int.reduceLE, Int.reduceNeg, Int.reduceBEq, Int.reduceBNe, Int.reduceEq, Nat.reduceLeDiff, Nat.reduceMul, Nat.reduceLT, *]
    | simp (singlePass := true) (maxDischargeDepth := 99) only [*, S2, Nat.reduceLT])
    exact ⟨_, rfl, hor, hnx.out⟩
  · rintro g wk nk sk bk ⟨hi, hf, d, h7, hp⟩
    simp (maxDischargeDepth := 3) only [U, ↓reduceIte, Nat.reduceEqDiff, *] at hf
    obtain ⟨hd, hh, all, hka⟩ := hp.out
    have he : d = 2 ^ after.length - 1 := by
      cases hf4 : 4096 - H with
      | zero =>
        rw [hf4] at hka
        cases hka
      | succ f =>
        rw [hf4] at hh
        unfold heightN at hh
        split at hh
        · assumption
        · omega
    have hnz : ((d : Int) != ((2 ^ after.length - 1 : Nat) : Int)) = false := by simp; omega
    clear hp hka hh
    (repeat' first
    | ((with_reducible refine at_row ?_); refine row1_a fun _ _ _ _ _ _ _ => ?_)
    | with_reducible first | (first | apply alloc_k | apply row_k); intro _ _ _ _ _ _ | (first | apply fork | apply forkp) <;> intro _ | refine forke (fun _ => ?_) fun _ _ => ?_ | refine tail_k fun _ _ _ => ?_ | refine ext_k fun _ _ _ => ?_ | refine need_a ?_ | refine st_agg KR rfl ON fun _ _ _ _ => ?_ | refine wpd_q_a ?_
    | simp (maxDischargeDepth := 3) only [↓X, ↓Y, ↓Q, S1, ↓reduceIte, Nat.reduceEqDiff, Nat.reduceAdd, Int.reduceLT, Int.reduceLE, Int.reduceNeg, Int.reduceBEq, Int.reduceBNe, Int.reduceEq, Nat.reduceLeDiff, Nat.reduceMul, Nat.reduceLT, *]
    | simp (singlePass := true) (maxDischargeDepth := 99) only [*, S2, Nat.reduceLT])
end
end Go.Proofs.YteeaccnklkcchaaDoor
