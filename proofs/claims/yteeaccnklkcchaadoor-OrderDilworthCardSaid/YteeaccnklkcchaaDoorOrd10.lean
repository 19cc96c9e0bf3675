
/- The layer order: ideal, inside, Closure, IsIdeal, Enabled, Height. -/
import Derived.Test.YteeaccnklkcchaaDoorSpec10
import Derived.Test.YteeaccnklkcchaaDoorRed20
namespace Go.Proofs.YteeaccnklkcchaaDoor
set_option linter.unusedSimpArgs false
set_option linter.unusedVariables false
open Go Go.RowKit
set_option maxRecDepth 100000
set_option linter.unusedSectionVars false
set_option maxHeartbeats 2000000
section
variable {w w' : World} {B b : Nat} {nv vd va v : Value} {ds al : List Nat} {s : Nat}
theorem orderIdealP (hT : TabW w) (hB : B ≤ w.heap.size) (hd : Sl w B none 1 vd (ds.map natV)) (hdl : ∀ x, ds.getD x 0 < 4096) (h12 : ds.length ≤ 12) (hs : s < 2 ^ ds.length) : Ret Tryd.prog 51 #[.agg #[nv, vd, va], natV s] w (.bool (idealD ds s)) := by
  have hn : Now w := trivial
  have hx : Ext w w := Ext.refl w
  have hd' := hd.k hB
  have hT' := fun w' (h : Ext w w') => hT.ext h
  have hp2 := two_pow_le h12
  have hll := lst_len12 s
  have hin : ∀ k, k ∈ lst s → k < ds.length := fun k hk => mem_lst hk hs
  replace hin : Hid _ := hin
  replace hdl : Hid _ := hdl
  clear hT hd
  (refine callsV_of Tryd.func51 rfl KR KR ?_; rw [Tryd.results51])
  (repeat' first
    | ((with_reducible refine at_row ?_); refine row1_a fun _ _ _ _ _ _ _ => ?_)
    | with_reducible first | (first | apply alloc_k | apply row_k); intro _ _ _ _ _ _ | (first | apply fork | apply forkp) <;> intro _ | refine forke (fun _ => ?_) fun _ _ => ?_ | refine tail_k fun _ _ _ => ?_ | refine ext_k fun _ _ _ => ?_ | refine need_a ?_ | refine st_agg KR rfl ON fun _ _ _ _ => ?_ | refine wpd_q_a ?_
    | simp (maxDischargeDepth := 3) only [↓X, ↓Y, ↓Q, S1, ↓reduceIte, Nat.reduceEqDiff, Nat.reduceAdd, Int.reduceLT, Int.reduceLE, Int.reduceNeg, Int.reduceBEq, Int.reduceBNe, Int.reduceEq, Nat.reduceLeDiff, Nat.reduceMul, Nat.reduceLT, *]
    | simp (singlePass := true) (maxDischargeDepth := 99) only [*, S2, Nat.reduceLT])
  refine loop_k (lst s).length (fun g0 k g w' => (∃ m : Nat, g 5 = .int .i64 m ∧ Hid (m < 4096 ∧ lst m = (lst s).drop k ∧ ∀ j, j ∈ (lst s).take k → sub (ds.getD j 0) s = 0)) ∧ (g 1 = g0 1 ∧ g 2 = g0 2)) KR (by omega) ?_ ?_ ?_
  · (repeat' first
    | ((with_reducible refine at_row ?_); refine row1_a fun _ _ _ _ _ _ _ => ?_)
    | with_reducible first | (first | apply alloc_k | apply row_k); intro _ _ _ _ _ _ | (first | apply fork | apply forkp) <;> intro _ | refine forke (fun _ => ?_) fun _ _ => ?_ | refine tail_k fun _ _ _ => ?_ | refine ext_k fun _ _ _ => ?_ | refine need_a ?_ | refine st_agg KR rfl ON fun _ _ _ _ => ?_ | refine wpd_q_a ?_
    | simp (maxDischargeDepth := 3) only [↓X, ↓Y, ↓Q, S1, ↓reduceIte, Nat.reduceEqDiff, Nat.reduceAdd, Int.reduceLT, Int.reduceLE, Int.reduceNeg, Int.reduceBEq, Int.reduceBNe, Int.reduceEq, Nat.reduceLeDiff, Nat.reduceMul, Nat.reduceLT, *]
    | simp (singlePass := true) (maxDischargeDepth := 99) only [*, S2, Nat.reduceLT])
    exact ⟨s, rfl, by omega, rfl, fun j h => by cases h⟩
  · rintro k m g wk hk hlt nk sk bk hw ⟨⟨r, h5, hp⟩, hf⟩
    simp (maxDischargeDepth := 3) only [U, ↓reduceIte, Nat.reduceEqDiff, *] at hf
    obtain ⟨hr, hlr, hall⟩ := hp.out
    have hr0 : r ≠ 0 := by
      rintro rfl
      rw [lst_zero] at hlr
      have := congrArg List.length hlr
      simp at this
      omega
    have hz : ((r : Int) != 0) = true := by simpa using hr0
    have hwr : IntKind.u64.wrap (r : Int) = (r : Int) := by rw [IntKind.wrap_u64]; omega
    obtain ⟨hs1, hs2⟩ := lst_step hr hr0
    have hds := List.drop_eq_getElem_cons hlt
    rw [hlr, hds] at hs1
    have htz : (lst s)[k] = tz r := (List.cons.inj hs1).1
    have hrest := (List.cons.inj hs1).2
    have htl : tz r < ds.length := htz ▸ hin.out _ (List.getElem_mem hlt)
    have hgd : ds[tz r] = ds.getD (tz r) 0 := getN htl
    have hd4 := hdl.out (tz r)
    have e2 := andNotI_nat (a := ds.getD (tz r) 0) (b := s) (by omega) (by omega)
    have e3 : (((sub (ds.getD (tz r) 0) s : Nat) : Int) != 0) = (sub (ds.getD (tz r) 0) s != 0) := by rw [Bool.eq_iff_iff]; simp
    have e4 : IntKind.i64.wrap ((r : Int) - 1) = ((r - 1 : Nat) : Int) := by rw [show (r : Int) - 1 = ((r - 1 : Nat) : Int) by omega, wrap_nat (by omega)]
    have e5 := andI_nat (a := r) (b := r - 1) (by omega) (by omega)
    have hmem : (lst s)[k] ∈ lst s := List.getElem_mem hlt
    have htake : (lst s).take (k + 1) = (lst s).take k ++ [(lst s)[k]] := appLL_take hlt
    rw [htz] at hmem htake
    replace htz : Hid _ := htz
    replace hmem : Hid _ := hmem
    replace htake : Hid _ := htake
    replace hrest : Hid _ := hrest
    clear hds hs1 hlr
    cases e6 : sub (ds.getD (tz r) 0) s != 0
    · have h0 : sub (ds.getD (tz r) 0) s = 0 := by simpa using e6
      (repeat' first
    | ((with_reducible refine at_row ?_); refine row1_a fun _ _ _ _ _ _ _ => ?_)
    | with_reducible first | (first | apply alloc_k | apply row_k); intro _ _ _ _ _ _ | (first | apply fork | apply forkp) <;> intro _ | refine forke (fun _ => ?_) fun _ _ => ?_ | refine tail_k fun _ _ _ => ?_ | refine ext_k fun _ _ _ => ?_ | refine need_a ?_ | refine st_agg KR rfl ON fun _ _ _ _ => ?_ | refine wpd_q_a ?_
    | ((with_reducible refine at_q 66 ?_); refine qret_k (fun _ _ _ => trailingZeros (hT' _ FR) hr hr0) ?_)
    | simp (maxDischargeDepth := 3) only [↓X, ↓Y, ↓Q, S1, ↓reduceIte, Nat.reduceEqDiff, Nat.reduceAdd, Int.reduceLT, Int.reduceLE, Int.reduceNeg, Int.reduceBEq, Int.reduceBNe, Int.reduceEq, Nat.reduceLeDiff, Nat.reduceMul, Nat.reduceLT, *, hgd]
    | simp (singlePass := true) (maxDischargeDepth := 99) only [*, S2, Nat.reduceLT, hgd])
      refine next_k hk hlt ?_ FR
      (repeat' first
    | ((with_reducible refine at_row ?_); refine row1_a fun _ _ _ _ _ _ _ => ?_)
    | with_reducible first | (first | apply alloc_k | apply row_k); intro _ _ _ _ _ _ | (first | apply fork | apply forkp) <;> intro _ | refine forke (fun _ => ?_) fun _ _ => ?_ | refine tail_k fun _ _ _ => ?_ | refine ext_k fun _ _ _ => ?_ | refine need_a ?_ | refine st_agg KR rfl ON fun _ _ _ _ => ?_ | refine wpd_q_a ?_
    | simp (maxDischargeDepth := 3) only [↓X, ↓Y, ↓Q, S1, ↓reduceIte, Nat.reduceEqDiff, Nat.reduceAdd, Int.reduceLT, Int.reduceLE, Int.reduceNeg, Int.reduceBEq, Int.reduceBNe, Int.reduceEq, Nat.reduceLeDiff, Nat.reduceMul, Nat.reduceLT, *]
    | simp (singlePass := true) (maxDischargeDepth := 99) only [*, S2, Nat.reduceLT])
      refine ⟨_, rfl, by omega, hrest.out.symm, fun j hj => ?_⟩
      rw [htake.out] at hj
      rcases List.mem_append.1 hj with h | h
      · exact hall j h
      · obtain rfl := List.mem_singleton.1 h
        exact h0
    · have h0 : sub (ds.getD (tz r) 0) s ≠ 0 := by simpa using e6
      (repeat' first
    | ((with_reducible refine at_row ?_); refine row1_a fun _ _ _ _ _ _ _ => ?_)
    | with_reducible first | (first | apply alloc_k | apply row_k); intro _ _ _ _ _ _ | (first | apply fork | apply forkp) <;> intro _ | refine forke (fun _ => ?_) fun _ _ => ?_ | refine tail_k fun _ _ _ => ?_ | refine ext_k fun _ _ _ => ?_ | refine need_a ?_ | refine st_agg KR rfl ON fun _ _ _ _ => ?_ | refine wpd_q_a ?_
    | ((with_reducible refine at_q 66 ?_); refine qret_k (fun _ _ _ => trailingZeros (hT' _ FR) hr hr0) ?_)
    | simp (maxDischargeDepth := 3) only [↓X, ↓Y, ↓Q, S1, ↓reduceIte, Nat.reduceEqDiff, Nat.reduceAdd, Int.reduceLT, Int.reduceLE, Int.reduceNeg, Int.reduceBEq, Int.reduceBNe, Int.reduceEq, Nat.reduceLeDiff, Nat.reduceMul, Nat.reduceLT, *, hgd]
    | simp (singlePass := true) (maxDischargeDepth := 99) only [*, S2, Nat.reduceLT, hgd])
      have : idealD ds s = false := by
        rw [idealD, List.all_eq_false]
        exact ⟨tz r, hmem.out, by simpa using h0⟩
      rw [this]
  · rintro g wk nk sk bk ⟨⟨r, h5, hp⟩, hf⟩
    simp (maxDischargeDepth := 3) only [U, ↓reduceIte, Nat.reduceEqDiff, *] at hf
    obtain ⟨hr, hlr, hall⟩ := hp.out
    rw [List.drop_length] at hlr
    rw [List.take_length] at hall
    have hr0 : r = 0 := by
      rcases Nat.eq_zero_or_pos r with h | h
      · exact h
      · have := (lst_step hr (by omega)).1
        rw [hlr] at this
        cases this
    subst hr0
    (repeat' first
    | ((with_reducible refine at_row ?_); refine row1_a fun _ _ _ _ _ _ _ => ?_)
    | with_reducible first | (first | apply alloc_k | apply row_k); intro _ _ _ _ _ _ | (first | apply fork | apply forkp) <;> intro _ | refine forke (fun _ => ?_) fun _ _ => ?_ | refine tail_k fun _ _ _ => ?_ | refine ext_k fun _ _ _ => ?_ | refine need_a ?_ | refine st_agg KR rfl ON fun _ _ _ _ => ?_ | refine wpd_q_a ?_
    | simp (maxDischargeDepth := 3) only [↓X, ↓Y, ↓Q, S1, ↓reduceIte, Nat.reduceEqDiff, Nat.reduceAdd, Int.reduceLT, Int.reduceLE, Int.reduceNeg, Int.reduceBEq, Int.reduceBNe, Int.reduceEq, Nat.reduceLeDiff, Nat.reduceMul, Nat.reduceLT, *]
    | simp (singlePass := true) (maxDischargeDepth := 99) only [*, S2, Nat.reduceLT])
    have : idealD ds s = true := by
      rw [idealD, List.all_eq_true]
      intro j hj
      rw [hall j hj]; rfl
    rw [this]
theorem orderInside {n : Nat} {x : Int} (h12 : n ≤ 12) : Ret Tryd.prog 50 #[.agg #[natV n, vd, va], intV x] w (.bool (decide (0 ≤ x) && decide (x < ((2 ^ n : Nat) : Int)))) := by
  have hn : Now w := trivial
  have hx : Ext w w := Ext.refl w
  have e1 := shlI_nat (k := n) (by omega)
  (refine callsV_of Tryd.func50 rfl KR KR ?_; rw [Tryd.results50])
  (repeat' first
    | ((with_reducible refine at_row ?_); refine row1_a fun _ _ _ _ _ _ _ => ?_)
    | with_reducible first | (first | apply alloc_k | apply row_k); intro _ _ _ _ _ _ | (first | apply fork | apply forkp) <;> intro _ | refine forke (fun _ => ?_) fun _ _ => ?_ | refine tail_k fun _ _ _ => ?_ | refine ext_k fun _ _ _ => ?_ | refine need_a ?_ | refine st_agg KR rfl ON fun _ _ _ _ => ?_ | refine wpd_q_a ?_
    | simp (maxDischargeDepth := 3) only [↓X, ↓Y, ↓Q, S1, ↓reduceIte, Nat.reduceEqDiff, Nat.reduceAdd, Int.reduceLT, Int.reduceLE, Int.reduceNeg, Int.reduceBEq, Int.reduceBNe, Int.reduceEq, Nat.reduceLeDiff, Nat.reduceMul, Nat.reduceLT, *]
    | simp (singlePass := true) (maxDischargeDepth := 99) only [*, S2, Nat.reduceLT])
  all_goals done
/-- What IsIdeal hands back. -/
def isIdealE (e : Int) (n : Nat) (ds : List Nat) (x : Int) : Bool × Int := if e = 0 then (if 0 ≤ x ∧ x < ((2 ^ n : Nat) : Int) then (idealD ds x.toNat, 0) else (false, 2)) else (false, e)
variable {vs : List Value} {after : List (List Int)}
theorem orderIsIdeal {x : Int} (hT : TabW w) (hB : B ≤ w.heap.size) (hv : LLR w B v vs after) : Ret Tryd.prog 14 #[v, intV x] w (.tuple #[.bool (isIdealE (ofS after).1 after.length (ofS after).2.1 x).1, intV (isIdealE (ofS after).1 after.length (ofS after).2.1 x).2]) := by
  have hn : Now w := trivial
  have hx : Ext w w := Ext.refl w
  have hT' := fun w' (h : Ext w w') => hT.ext h
  have hV := fun w' (h : Bl B w w') => hv.blz h
  have hbw : Bl B w w := Bl.refl hB
  have hok : (ofS after).1 = 0 → Hid (after.length ≤ 12 ∧ (ofS after).2.1.length = after.length ∧ (ofS after).2.2.length = after.length ∧ (∀ x, (ofS after).2.1.getD x 0 < 4096) ∧ ∀ x, (ofS after).2.2.getD x 0 < 4096) := fun h => by
    obtain ⟨h1, _, h3, _, h5, _, _, _, h9, h10⟩ := ord_ok h
    exact ⟨h1, h3, h5, h9, h10⟩
  replace hV : Hid _ := hV
  have hof := fun w' (h1 : Bl B w w') (h2 : Ext w w') (h3 : B ≤ w'.heap.size) => orderOf (hT' w' h2) h3 (hV.out w' h1)
  unfold OfR at hof
  replace hof : Hid _ := hof
  generalize ofS after = S at *
  obtain ⟨e, ds, al⟩ := S
  simp only at hok hof ⊢
  (refine callsV_of Tryd.func14 rfl KR KR ?_; rw [Tryd.results14])
  (repeat' first
    | ((with_reducible refine at_row ?_); refine row1_a fun _ _ _ _ _ _ _ => ?_)
    | with_reducible first | (first | apply alloc_k | apply row_k); intro _ _ _ _ _ _ | (first | apply fork | apply forkp) <;> intro _ | refine forke (fun _ => ?_) fun _ _ => ?_ | refine tail_k fun _ _ _ => ?_ | refine ext_k fun _ _ _ => ?_ | refine need_a ?_ | refine st_agg KR rfl ON fun _ _ _ _ => ?_ | refine wpd_q_a ?_
    | simp (maxDischargeDepth := 3) only [↓X, ↓Y, ↓Q, S1, ↓reduceIte, Nat.reduceEqDiff, Nat.reduceAdd, Int.reduceLT, Int.reduceLE, Int.reduceNeg, Int.reduceBEq, Int.reduceBNe, Int.reduceEq, Nat.reduceLeDiff, Nat.reduceMul, Nat.reduceLT, *]
    | simp (singlePass := true) (maxDischargeDepth := 99) only [*, S2, Nat.reduceLT])
  refine call_k (hof.out _ FR FR FR) ?_
  rintro _ w1 n1 s1 ⟨nv, vd, va, rfl, hone, hrow⟩
  obtain ⟨o1, o2, o3⟩ := hone
  by_cases h0 : e = 0
  rotate_left
  · have e1 : (e == 0) = false := by simpa using h0
    have e2 : (e != 0) = true := by simpa using h0
    clear hok hrow
    (repeat' first
    | ((with_reducible refine at_row ?_); refine row1_a fun _ _ _ _ _ _ _ => ?_)
    | with_reducible first | (first | apply alloc_k | apply row_k); intro _ _ _ _ _ _ | (first | apply fork | apply forkp) <;> intro _ | refine forke (fun _ => ?_) fun _ _ => ?_ | refine tail_k fun _ _ _ => ?_ | refine ext_k fun _ _ _ => ?_ | refine need_a ?_ | refine st_agg KR rfl ON fun _ _ _ _ => ?_ | refine wpd_q_a ?_
    | simp (maxDischargeDepth := 3) only [↓X, ↓Y, ↓Q, S1, ↓reduceIte, Nat.reduceEqDiff, Nat.reduceAdd, Int.reduceLT, Int.reduceLE, Int.reduceNeg, Int.reduceBEq, Int.reduceBNe, Int.reduceEq, Nat.reduceLeDiff, Nat.reduceMul, Nat.reduceLT, *]
    | simp (singlePass := true) (maxDischargeDepth := 99) only [*, S2, Nat.reduceLT])
    rw [isIdealE, if_neg h0]
  subst h0
  obtain ⟨h12, hdn, han, hdl, hbl⟩ := (hok rfl).out
  obtain ⟨rfl, hvd, hva⟩ := hrow rfl
  have KD := hvd.k (Nat.le_refl _)
  have KA := hva.k (Nat.le_refl _)
  have hpow := two_pow_le h12
  clear hok hrow
  rw [← hdn] at hpow
  by_cases hx1 : 0 ≤ x ∧ x < ((2 ^ after.length : Nat) : Int)
  · obtain ⟨y, rfl⟩ : ∃ y : Nat, x = y := ⟨x.toNat, by omega⟩
    have hy : y < 2 ^ ds.length := by rw [hdn]; omega
    have c1 : (decide (0 ≤ (y : Int)) && decide ((y : Int) < ((2 ^ after.length : Nat) : Int))) = true := by simp only [hx1, decide_true, Bool.and_self]
    have e9 : isIdealE 0 after.length ds (y : Int) = (idealD ds y, 0) := by rw [isIdealE, if_pos rfl, if_pos hx1]; rfl
    rw [e9]
    have hy' : y < 2 ^ after.length := by omega
    have hD := fun w' (h : Bl w1.heap.size w1 w') => hvd.bl h
    replace hD : Hid _ := hD
    have b1 : Bl w1.heap.size w1 w1 := Bl.refl (Nat.le_refl _)
    clear hx1 e9 hvd hva
    (repeat' first
    | ((with_reducible refine at_row ?_); refine row1_a fun _ _ _ _ _ _ _ => ?_)
    | with_reducible first | (first | apply alloc_k | apply row_k); intro _ _ _ _ _ _ | (first | apply fork | apply forkp) <;> intro _ | refine forke (fun _ => ?_) fun _ _ => ?_ | refine tail_k fun _ _ _ => ?_ | refine ext_k fun _ _ _ => ?_ | refine need_a ?_ | refine st_agg KR rfl ON fun _ _ _ _ => ?_ | refine wpd_q_a ?_
    | ((with_reducible refine at_f 50 ?_); refine ret_k (orderInside (x := (y : Int)) h12) fun _ _ _ => ?_)
    | ((with_reducible refine at_f 51 ?_); refine ret_k (orderIdealP (B := w1.heap.size) (s := y) (hT' _ FR) FR (hD.out _ FR) hdl (by omega) hy) fun _ _ _ => ?_)
    | simp (maxDischargeDepth := 3) only [↓X, ↓Y, ↓Q, S1, ↓reduceIte, Nat.reduceEqDiff, Nat.reduceAdd, Int.reduceLT, Int.reduceLE, Int.reduceNeg, Int.reduceBEq, Int.reduceBNe, Int.reduceEq, Nat.reduceLeDiff, Nat.reduceMul, Nat.reduceLT, *]
    | simp (singlePass := true) (maxDischargeDepth := 99) only [*, S2, Nat.reduceLT])
  · have c1 : (decide (0 ≤ x) && decide (x < ((2 ^ after.length : Nat) : Int))) = false := by rw [← Bool.not_eq_true, Bool.and_eq_true, decide_eq_true_eq, decide_eq_true_eq]; exact hx1
    have e9 : isIdealE 0 after.length ds x = (false, 2) := by rw [isIdealE, if_pos rfl, if_neg hx1]
    rw [e9]
    (repeat' first
    | ((with_reducible refine at_row ?_); refine row1_a fun _ _ _ _ _ _ _ => ?_)
    | with_reducible first | (first | apply alloc_k | apply row_k); intro _ _ _ _ _ _ | (first | apply fork | apply forkp) <;> intro _ | refine forke (fun _ => ?_) fun _ _ => ?_ | refine tail_k fun _ _ _ => ?_ | refine ext_k fun _ _ _ => ?_ | refine need_a ?_ | refine st_agg KR rfl ON fun _ _ _ _ => ?_ | refine wpd_q_a ?_
    | ((with_reducible refine at_f 50 ?_); refine ret_k (orderInside h12) fun _ _ _ => ?_)
    | simp (maxDischargeDepth := 3) only [↓X, ↓Y, ↓Q, S1, ↓reduceIte, Nat.reduceEqDiff, Nat.reduceAdd, Int.reduceLT, Int.reduceLE, Int.reduceNeg, Int.reduceBEq, Int.reduceBNe, Int.reduceEq, Nat.reduceLeDiff, Nat.reduceMul, Nat.reduceLT, *]
    | simp (singlePass := true) (maxDischargeDepth := 99) only [*, S2, Nat.reduceLT])
theorem orderClosure (hT : TabW w) (hB : B ≤ w.heap.size) (hv : LLR w B v vs after) : CallsV Tryd.prog 12 #[v] w fun r w' => Ext w w' ∧ ∃ o, r = .tuple #[o, intV (ofS after).1] ∧ OwnLL w' w.heap.size o (if (ofS after).1 = 0 then (ofS after).2.2.map lst else []) := by
  have hn : Now w := trivial
  have hx : Ext w w := Ext.refl w
  have hT' := fun w' (h : Ext w w') => hT.ext h
  have hV := fun w' (h : Bl B w w') => hv.blz h
  have hbw : Bl B w w := Bl.refl hB
  have hok : (ofS after).1 = 0 → Hid (after.length ≤ 12 ∧ (ofS after).2.1.length = after.length ∧ (ofS after).2.2.length = after.length ∧ (∀ x, (ofS after).2.1.getD x 0 < 4096) ∧ ∀ x, (ofS after).2.2.getD x 0 < 4096) := fun h => by
    obtain ⟨h1, _, h3, _, h5, _, _, _, h9, h10⟩ := ord_ok h
    exact ⟨h1, h3, h5, h9, h10⟩
  replace hV : Hid _ := hV
  have hof := fun w' (h1 : Bl B w w') (h2 : Ext w w') (h3 : B ≤ w'.heap.size) => orderOf (hT' w' h2) h3 (hV.out w' h1)
  unfold OfR at hof
  replace hof : Hid _ := hof
  generalize ofS after = S at *
  obtain ⟨e, ds, al⟩ := S
  simp only at hok hof ⊢
  (refine callsV_of Tryd.func12 rfl KR KR ?_; rw [Tryd.results12])
  (repeat' first
    | ((with_reducible refine at_row ?_); refine row1_a fun _ _ _ _ _ _ _ => ?_)
    | with_reducible first | (first | apply alloc_k | apply row_k); intro _ _ _ _ _ _ | (first | apply fork | apply forkp) <;> intro _ | refine forke (fun _ => ?_) fun _ _ => ?_ | refine tail_k fun _ _ _ => ?_ | refine ext_k fun _ _ _ => ?_ | refine need_a ?_ | refine st_agg KR rfl ON fun _ _ _ _ => ?_ | refine wpd_q_a ?_
    | simp (maxDischargeDepth := 3) only [↓X, ↓Y, ↓Q, S1, ↓reduceIte, Nat.reduceEqDiff, Nat.reduceAdd, Int.reduceLT, Int.reduceLE, Int.reduceNeg, Int.reduceBEq, Int.reduceBNe, Int.reduceEq, Nat.reduceLeDiff, Nat.reduceMul, Nat.reduceLT, *]
    | simp (singlePass := true) (maxDischargeDepth := 99) only [*, S2, Nat.reduceLT])
  refine call_k (hof.out _ FR FR FR) ?_
  rintro _ w1 n1 s1 ⟨nv, vd, va, rfl, hone, hrow⟩
  obtain ⟨o1, o2, o3⟩ := hone
  by_cases h0 : e = 0
  rotate_left
  · have e1 : (e == 0) = false := by simpa using h0
    have e2 : (e != 0) = true := by simpa using h0
    clear hok hrow
    (repeat' first
    | ((with_reducible refine at_row ?_); refine row1_a fun _ _ _ _ _ _ _ => ?_)
    | with_reducible first | (first | apply alloc_k | apply row_k); intro _ _ _ _ _ _ | (first | apply fork | apply forkp) <;> intro _ | refine forke (fun _ => ?_) fun _ _ => ?_ | refine tail_k fun _ _ _ => ?_ | refine ext_k fun _ _ _ => ?_ | refine need_a ?_ | refine st_agg KR rfl ON fun _ _ _ _ => ?_ | refine wpd_q_a ?_
    | simp (maxDischargeDepth := 3) only [↓X, ↓Y, ↓Q, S1, ↓reduceIte, Nat.reduceEqDiff, Nat.reduceAdd, Int.reduceLT, Int.reduceLE, Int.reduceNeg, Int.reduceBEq, Int.reduceBNe, Int.reduceEq, Nat.reduceLeDiff, Nat.reduceMul, Nat.reduceLT, *]
    | simp (singlePass := true) (maxDischargeDepth := 99) only [*, S2, Nat.reduceLT])
    exact ⟨_, rfl, OwnLL.nil _ _⟩
  subst h0
  obtain ⟨h12, hdn, han, hdl, hbl⟩ := (hok rfl).out
  obtain ⟨rfl, hvd, hva⟩ := hrow rfl
  have KD := hvd.k (Nat.le_refl _)
  have KA := hva.k (Nat.le_refl _)
  have hpow := two_pow_le h12
  clear hok hrow
  rw [if_pos rfl]
  have hl3 : (al.map lst).length = al.length := by simp
  replace hbl : Hid _ := hbl
  (repeat' first
    | ((with_reducible refine at_row ?_); refine row1_a fun _ _ _ _ _ _ _ => ?_)
    | with_reducible first | (first | apply alloc_k | apply row_k); intro _ _ _ _ _ _ | (first | apply fork | apply forkp) <;> intro _ | refine forke (fun _ => ?_) fun _ _ => ?_ | refine tail_k fun _ _ _ => ?_ | refine ext_k fun _ _ _ => ?_ | refine need_a ?_ | refine st_agg KR rfl ON fun _ _ _ _ => ?_ | refine wpd_q_a ?_
    | simp (maxDischargeDepth := 3) only [↓X, ↓Y, ↓Q, S1, ↓reduceIte, Nat.reduceEqDiff, Nat.reduceAdd, Int.reduceLT, Int.reduceLE, Int.reduceNeg, Int.reduceBEq, Int.reduceBNe, Int.reduceEq, Nat.reduceLeDiff, Nat.reduceMul, Nat.reduceLT, *]
    | simp (singlePass := true) (maxDischargeDepth := 99) only [*, S2, Nat.reduceLT])
  refine loop_o after.length (fun w0 g0 k g w' => g 20 = .int .i64 k ∧ (g 18 = g0 18 ∧ g 19 = g0 19) ∧ ∃ o, g 6 = o ∧ OwnLL w' w0.heap.size o ((al.map lst).take k)) KR (by omega) ?_ ?_ ?_
  · (repeat' first
    | ((with_reducible refine at_row ?_); refine row1_a fun _ _ _ _ _ _ _ => ?_)
    | with_reducible first | (first | apply alloc_k | apply row_k); intro _ _ _ _ _ _ | (first | apply fork | apply forkp) <;> intro _ | refine forke (fun _ => ?_) fun _ _ => ?_ | refine tail_k fun _ _ _ => ?_ | refine ext_k fun _ _ _ => ?_ | refine need_a ?_ | refine st_agg KR rfl ON fun _ _ _ _ => ?_ | refine wpd_q_a ?_
    | simp (maxDischargeDepth := 3) only [↓X, ↓Y, ↓Q, S1, ↓reduceIte, Nat.reduceEqDiff, Nat.reduceAdd, Int.reduceLT, Int.reduceLE, Int.reduceNeg, Int.reduceBEq, Int.reduceBNe, Int.reduceEq, Nat.reduceLeDiff, Nat.reduceMul, Nat.reduceLT, *]
    | simp (singlePass := true) (maxDischargeDepth := 99) only [*, S2, Nat.reduceLT])
    exact ⟨_, rfl, OwnLL.nil _ _⟩
  · rintro k m g wk hk hlt nk sk bk hw ⟨hi, hf, o, ho6, hown⟩
    simp (maxDischargeDepth := 3) only [U, ↓reduceIte, Nat.reduceEqDiff, *] at hf
    have bw : Bl wk.heap.size wk wk := Bl.refl (Nat.le_refl _)
    have oo := hown.one
    have hka : k < al.length := by omega
    have hdk : al[k] = al.getD k 0 := getN hka
    have hs4 := hbl.out k
    have hOx := fun w' (h : Ext wk w') => hown.ext h
    replace hOx : Hid _ := hOx
    have hxk := Ext.refl wk
    have hrk : (al.map lst).take (k + 1) = (al.map lst).take k ++ [lst (al.getD k 0)] := by
      rw [appLL_take (by omega), List.getElem_map, hdk]
    have hkl : ((al.map lst).take k).length < 1000000000000 := by simp; omega
    replace hrk : Hid _ := hrk
    clear hown
    (repeat' first
    | ((with_reducible refine at_row ?_); refine row1_a fun _ _ _ _ _ _ _ => ?_)
    | with_reducible first | (first | apply alloc_k | apply row_k); intro _ _ _ _ _ _ | (first | apply fork | apply forkp) <;> intro _ | refine forke (fun _ => ?_) fun _ _ => ?_ | refine tail_k fun _ _ _ => ?_ | refine ext_k fun _ _ _ => ?_ | refine need_a ?_ | refine st_agg KR rfl ON fun _ _ _ _ => ?_ | refine wpd_q_a ?_
    | simp (maxDischargeDepth := 3) only [↓X, ↓Y, ↓Q, S1, ↓reduceIte, Nat.reduceEqDiff, Nat.reduceAdd, Int.reduceLT, Int.reduceLE, Int.reduceNeg, Int.reduceBEq, Int.reduceBNe, Int.reduceEq, Nat.reduceLeDiff, Nat.reduceMul, Nat.reduceLT, *, hdk]
    | simp (singlePass := true) (maxDischargeDepth := 99) only [*, S2, Nat.reduceLT, hdk])
    refine call_k (orderList (s := al.getD k 0) (hT' _ FR) hs4) ?_
    intro u2 w8 n8 s8 hu2
    have O2 := hu2.o
    clear hu2
    (repeat' first
    | ((with_reducible refine at_row ?_); refine row1_a fun _ _ _ _ _ _ _ => ?_)
    | with_reducible first | (first | apply alloc_k | apply row_k); intro _ _ _ _ _ _ | (first | apply fork | apply forkp) <;> intro _ | refine forke (fun _ => ?_) fun _ _ => ?_ | refine tail_k fun _ _ _ => ?_ | refine ext_k fun _ _ _ => ?_ | refine need_a ?_ | refine st_agg KR rfl ON fun _ _ _ _ => ?_ | refine wpd_q_a ?_
    | simp (maxDischargeDepth := 3) only [↓X, ↓Y, ↓Q, S1, ↓reduceIte, Nat.reduceEqDiff, Nat.reduceAdd, Int.reduceLT, Int.reduceLE, Int.reduceNeg, Int.reduceBEq, Int.reduceBNe, Int.reduceEq, Nat.reduceLeDiff, Nat.reduceMul, Nat.reduceLT, *]
    | simp (singlePass := true) (maxDischargeDepth := 99) only [*, S2, Nat.reduceLT])
    rename_i b10 w10 n10 k10 s10 q10 l10
    refine appLL (hOx.out _ FR) ((O2.1 _ FR).more FR) (k10.2.1 _ FR) hkl FR fun v' w9 n9 s9 hown9 => ?_
    rw [← hrk.out] at hown9
    have hO9 : Hid _ := hown9
    clear hown9
    (repeat' first
    | ((with_reducible refine at_row ?_); refine row1_a fun _ _ _ _ _ _ _ => ?_)
    | with_reducible first | (first | apply alloc_k | apply row_k); intro _ _ _ _ _ _ | (first | apply fork | apply forkp) <;> intro _ | refine forke (fun _ => ?_) fun _ _ => ?_ | refine tail_k fun _ _ _ => ?_ | refine ext_k fun _ _ _ => ?_ | refine need_a ?_ | refine st_agg KR rfl ON fun _ _ _ _ => ?_ | refine wpd_q_a ?_
    | simp (maxDischargeDepth := 3) only [↓X, ↓Y, ↓Q, S1, ↓reduceIte, Nat.reduceEqDiff, Nat.reduceAdd, Int.reduceLT, Int.reduceLE, Int.reduceNeg, Int.reduceBEq, Int.reduceBNe, Int.reduceEq, Nat.reduceLeDiff, Nat.reduceMul, Nat.reduceLT, *]
    | simp (singlePass := true) (maxDischargeDepth := 99) only [*, S2, Nat.reduceLT])
    refine next_k hk hlt ?_ FR
    (repeat' first
    | ((with_reducible refine at_row ?_); refine row1_a fun _ _ _ _ _ _ _ => ?_)
    | with_reducible first | (first | apply alloc_k | apply row_k); intro _ _ _ _ _ _ | (first | apply fork | apply forkp) <;> intro _ | refine forke (fun _ => ?_) fun _ _ => ?_ | refine tail_k fun _ _ _ => ?_ | refine ext_k fun _ _ _ => ?_ | refine need_a ?_ | refine st_agg KR rfl ON fun _ _ _ _ => ?_ | refine wpd_q_a ?_
    | simp (maxDischargeDepth := 3) only [↓X, ↓Y, ↓Q, S1, ↓reduceIte, Nat.reduceEqDiff, Nat.reduceAdd, Int.reduceLT, Int.reduceLE, Int.reduceNeg, Int.reduceBEq, Int.reduceBNe, Int.reduceEq, Nat.reduceLeDiff, Nat.reduceMul, Nat.reduceLT, *]
    | simp (singlePass := true) (maxDischargeDepth := 99) only [*, S2, Nat.reduceLT])
    exact ⟨_, rfl, hO9.out⟩
  · rintro g wk nk sk bk ⟨hi, hf, o, ho6, hown⟩
    simp (maxDischargeDepth := 3) only [U, ↓reduceIte, Nat.reduceEqDiff, *] at hf
    rw [← han, ← hl3, List.take_length] at hown
    have hO := fun w' (h : Ext wk w') => hown.ext h
    have oo := hown.one
    have hxk := Ext.refl wk
    replace hO : Hid _ := hO
    clear hown
    (repeat' first
    | ((with_reducible refine at_row ?_); refine row1_a fun _ _ _ _ _ _ _ => ?_)
    | with_reducible first | (first | apply alloc_k | apply row_k); intro _ _ _ _ _ _ | (first | apply fork | apply forkp) <;> intro _ | refine forke (fun _ => ?_) fun _ _ => ?_ | refine tail_k fun _ _ _ => ?_ | refine ext_k fun _ _ _ => ?_ | refine need_a ?_ | refine st_agg KR rfl ON fun _ _ _ _ => ?_ | refine wpd_q_a ?_
    | simp (maxDischargeDepth := 3) only [↓X, ↓Y, ↓Q, S1, ↓reduceIte, Nat.reduceEqDiff, Nat.reduceAdd, Int.reduceLT, Int.reduceLE, Int.reduceNeg, Int.reduceBEq, Int.reduceBNe, Int.reduceEq, Nat.reduceLeDiff, Nat.reduceMul, Nat.reduceLT, *]
    | simp (singlePass := true) (maxDischargeDepth := 99) only [*, S2, Nat.reduceLT])
    refine ⟨_, rfl, ?_⟩
    exact (hO.out _ FR).more FR
end
end Go.Proofs.YteeaccnklkcchaaDoor
