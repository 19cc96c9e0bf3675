
/- The document's answer, layer 10: Nth; the statement OrderLines. -/
import Derived.Test.YteeaccnklkcchaaDoorRefN10
namespace Go.Proofs.YteeaccnklkcchaaDoor
set_option linter.unusedSimpArgs false
set_option linter.unusedVariables false
open Go Go.RowKit
set_option maxRecDepth 100000
set_option linter.unusedSectionVars false
set_option maxHeartbeats 2000000
section
variable {w : World} {B : Nat} {v : Value} {vs : List Value} {after : List (List Int)}
theorem pick_mem {c : Nat → Nat} : ∀ {l : List Nat} {k i k' : Nat}, pickN c l k = some (i, k') → i ∈ l
  | [], _, _, _, h => by cases h
  | a :: r, k, i, k', h => by
    rw [pickN] at h
    split at h
    · obtain ⟨rfl, _⟩ := Prod.mk.inj (Option.some.inj h)
      exact List.mem_cons_self ..
    · exact List.mem_cons_of_mem _ (pick_mem h)
theorem ref10Nth {x : Int} (hxr : -9223372036854775808 ≤ x ∧ x ≤ 9223372036854775807) (hB : B ≤ w.heap.size) (hv : LLR w B v vs after) : CallsV Tryd.prog 36 #[v, intV x] w fun r w' => Ext w w' ∧ ∃ o, r = .tuple #[o, intV (nthE (ofS after).1 (ofS after).2.1 x).2] ∧ Own w' w.heap.size 3 1 o ((nthE (ofS after).1 (ofS after).2.1 x).1.map natC) := by
  have hn : Now w := trivial
  have hx : Ext w w := Ext.refl w
  have hll := hv.len_
  have hV := fun w' (h : Bl B w w') => hv.blz h
  have hva := fun w' (h : Bl B w w') (h3 : B ≤ w'.heap.size) => ref10Valid h3 (hV w' h)
  have hbw : Bl B w w := Bl.refl hB
  by_cases h0 : (ofS after).1 = 0
  rotate_left
  · rw [nthE, if_neg h0]
    generalize (ofS after).1 = e at *
    have e1 : (e == 0) = false := by simpa using h0
    have e2 : (e != 0) = true := by simpa using h0
    (refine callsV_of Tryd.func36 rfl KR KR ?_; rw [Tryd.results36])
    (repeat' first
    | ((with_reducible refine at_row ?_); refine row1_a fun _ _ _ _ _ _ _ => ?_)
    | with_reducible first | (first | apply alloc_k | apply row_k); intro _ _ _ _ _ _ | (first | apply fork | apply forkp) <;> intro _ | refine forke (fun _ => ?_) fun _ _ => ?_ | refine tail_k fun _ _ _ => ?_ | refine ext_k fun _ _ _ => ?_ | refine need_a ?_ | refine st_agg KR rfl ON fun _ _ _ _ => ?_ | refine wpd_q_a ?_
    | ((with_reducible refine at_f 31 ?_); refine ret_k (hva _ FR FR) fun _ _ _ => ?_)
    | simp (maxDischargeDepth := 3) only [↓X, ↓Y, ↓Q, S1, ↓reduceIte, Nat.reduceEqDiff, Nat.reduceAdd, Int.reduceLT, Int.reduceLE, Int.reduceNeg, Int.reduceBEq, Int.reduceBNe, Int.reduceEq, Nat.reduceLeDiff, Nat.reduceMul, Nat.reduceLT, *]
    | simp (singlePass := true) (maxDischargeDepth := 99) only [*, S2, Nat.reduceLT])
    exact ⟨_, rfl, Own.nil _ _ _ _⟩
  obtain ⟨h12, hran, _, _⟩ := ref_ok h0
  have hwy := fun w' (h : Bl B w w') (h3 : B ≤ w'.heap.size) => ref10ways h3 (hV w' h) h0
  have hen := fun s (hs : s < 4096) w' (h : Bl B w w') (h3 : B ≤ w'.heap.size) => ref10enabled h3 (hV w' h) h12 hran hs
  replace hwy : Hid _ := hwy
  replace hen : Hid _ := hen
  have hp := two_pow_le h12
  have hpp := Nat.pow_pos (n := after.length) (show 0 < 2 by decide)
  have hde := fun s (hi : idealA (natA after) s = true) => ord_enab h0 hi
  have hdl : (ofS after).2.1.length = after.length := (ord_ok h0).2.2.1
  rw [h0] at hva ⊢
  have htab := fun t (ht : t < 2 ^ after.length) (hi : idealA (natA after) t = true) => tab0 (ds := (ofS after).2.1) ht hi
  have htl := tabS_len (natA after) (ofS after).2.1 (2 ^ after.length) 0
  generalize tabS (natA after) (ofS after).2.1 (2 ^ after.length) 0 = O at *
  generalize hds : (ofS after).2.1 = ds at *
  rw [nthE, if_pos rfl, hdl]
  have hws := fun s => wayS_le (ds := ds) (by omega) s
  have hnl : (natA after).length = after.length := natA_len _
  have hrd := fun s => rdyF_lt s ds 0
  simp only [Nat.zero_add, hdl] at hrd
  have horl := fun s i (hs : s < 2 ^ after.length) (hi : i < after.length) => or_lt hs hi
  have hnst := fun j s k (hj : j < after.length) (hc : card s = j) (hs : s < 2 ^ after.length) (hk : k < wayS ds s) => nth_step (ds := ds) (j := j) (s := s) (k := k) (by omega) (by omega) hc (by rw [hdl]; exact hs) hk
  simp only [hdl] at hnst
  have hn12 : Hid (after.length ≤ 12) := h12
  have ht0 := htab 0 hpp (idealA_zero _)
  have hol : (O.map natV).length = 2 ^ after.length := by rw [List.length_map]; exact htl
  have g0 : (O.map natV)[0]? = some (.int .i64 (O.getD 0 0 : Nat)) := rowN_get (by omega)
  rw [ht0] at g0
  generalize hls : natA after = ls at *
  generalize hM : 2 ^ after.length = M at *
  replace hde : Hid _ := hde
  replace hws : Hid _ := hws
  replace horl : Hid _ := horl
  replace htab : Hid _ := htab
  replace hrd : Hid _ := hrd
  replace hnst : Hid _ := hnst
  have hlt0 : (0 : Nat) < M := hpp
  clear hV hran hds hls hM h0 ht0
  by_cases hneg : x < 0
  · rw [if_pos (.inl hneg)]
    (refine callsV_of Tryd.func36 rfl KR KR ?_; rw [Tryd.results36])
    (repeat' first
    | ((with_reducible refine at_row ?_); refine row1_a fun _ _ _ _ _ _ _ => ?_)
    | with_reducible first | (first | apply alloc_k | apply row_k); intro _ _ _ _ _ _ | (first | apply fork | apply forkp) <;> intro _ | refine forke (fun _ => ?_) fun _ _ => ?_ | refine tail_k fun _ _ _ => ?_ | refine ext_k fun _ _ _ => ?_ | refine need_a ?_ | refine st_agg KR rfl ON fun _ _ _ _ => ?_ | refine wpd_q_a ?_
    | ((with_reducible refine at_f 31 ?_); refine ret_k (hva _ FR FR) fun _ _ _ => ?_)
    | simp (maxDischargeDepth := 3) only [↓X, ↓Y, ↓Q, S1, ↓reduceIte, Nat.reduceEqDiff, Nat.reduceAdd, Int.reduceLT, Int.reduceLE, Int.reduceNeg, Int.reduceBEq, Int.reduceBNe, Int.reduceEq, Nat.reduceLeDiff, Nat.reduceMul, Nat.reduceLT, *]
    | simp (singlePass := true) (maxDischargeDepth := 99) only [*, S2, Nat.reduceLT])
    refine call_k (hwy.out _ FR FR) ?_
    rintro _ w6 n6 s6 ⟨b, rfl, hbk, hbs⟩
    (repeat' first
    | ((with_reducible refine at_row ?_); refine row1_a fun _ _ _ _ _ _ _ => ?_)
    | with_reducible first | (first | apply alloc_k | apply row_k); intro _ _ _ _ _ _ | (first | apply fork | apply forkp) <;> intro _ | refine forke (fun _ => ?_) fun _ _ => ?_ | refine tail_k fun _ _ _ => ?_ | refine ext_k fun _ _ _ => ?_ | refine need_a ?_ | refine st_agg KR rfl ON fun _ _ _ _ => ?_ | refine wpd_q_a ?_
    | simp (maxDischargeDepth := 3) only [↓X, ↓Y, ↓Q, S1, ↓reduceIte, Nat.reduceEqDiff, Nat.reduceAdd, Int.reduceLT, Int.reduceLE, Int.reduceNeg, Int.reduceBEq, Int.reduceBNe, Int.reduceEq, Nat.reduceLeDiff, Nat.reduceMul, Nat.reduceLT, *]
    | simp (singlePass := true) (maxDischargeDepth := 99) only [*, S2, Nat.reduceLT])
    exact ⟨_, rfl, Own.nil _ _ _ _⟩
  by_cases hbad : (wayS ds 0 : Int) ≤ x
  · rw [if_pos (.inr hbad)]
    (refine callsV_of Tryd.func36 rfl KR KR ?_; rw [Tryd.results36])
    (repeat' first
    | ((with_reducible refine at_row ?_); refine row1_a fun _ _ _ _ _ _ _ => ?_)
    | with_reducible first | (first | apply alloc_k | apply row_k); intro _ _ _ _ _ _ | (first | apply fork | apply forkp) <;> intro _ | refine forke (fun _ => ?_) fun _ _ => ?_ | refine tail_k fun _ _ _ => ?_ | refine ext_k fun _ _ _ => ?_ | refine need_a ?_ | refine st_agg KR rfl ON fun _ _ _ _ => ?_ | refine wpd_q_a ?_
    | ((with_reducible refine at_f 31 ?_); refine ret_k (hva _ FR FR) fun _ _ _ => ?_)
    | simp (maxDischargeDepth := 3) only [↓X, ↓Y, ↓Q, S1, ↓reduceIte, Nat.reduceEqDiff, Nat.reduceAdd, Int.reduceLT, Int.reduceLE, Int.reduceNeg, Int.reduceBEq, Int.reduceBNe, Int.reduceEq, Nat.reduceLeDiff, Nat.reduceMul, Nat.reduceLT, *]
    | simp (singlePass := true) (maxDischargeDepth := 99) only [*, S2, Nat.reduceLT])
    refine call_k (hwy.out _ FR FR) ?_
    rintro _ w6 n6 s6 ⟨b, rfl, hbk, hbs⟩
    have kb := hbk.bk
    clear hbk
    (repeat' first
    | ((with_reducible refine at_row ?_); refine row1_a fun _ _ _ _ _ _ _ => ?_)
    | with_reducible first | (first | apply alloc_k | apply row_k); intro _ _ _ _ _ _ | (first | apply fork | apply forkp) <;> intro _ | refine forke (fun _ => ?_) fun _ _ => ?_ | refine tail_k fun _ _ _ => ?_ | refine ext_k fun _ _ _ => ?_ | refine need_a ?_ | refine st_agg KR rfl ON fun _ _ _ _ => ?_ | refine wpd_q_a ?_
    | simp (maxDischargeDepth := 3) only [↓X, ↓Y, ↓Q, S1, ↓reduceIte, Nat.reduceEqDiff, Nat.reduceAdd, Int.reduceLT, Int.reduceLE, Int.reduceNeg, Int.reduceBEq, Int.reduceBNe, Int.reduceEq, Nat.reduceLeDiff, Nat.reduceMul, Nat.reduceLT, *]
    | simp (singlePass := true) (maxDischargeDepth := 99) only [*, S2, Nat.reduceLT])
    exact ⟨_, rfl, Own.nil _ _ _ _⟩
  have hnn : ¬ (x < 0 ∨ (wayS ds 0 : Int) ≤ x) := by omega
  rw [if_neg hnn]
  obtain ⟨y, rfl⟩ : ∃ y : Nat, x = y := ⟨x.toNat, by omega⟩
  rw [Int.toNat_natCast]
  have h1 : ¬ (y : Int) < 0 := by omega
  have h2 : ¬ (wayS ds 0 : Int) ≤ (y : Int) := by omega
  have hyw : y < wayS ds 0 := by omega
  clear hbad hneg hnn
  generalize hAll : nthS ds after.length 0 y = All
  have I0 : Hid (0 < M ∧ idealA ls 0 = true ∧ card 0 = 0 ∧ y < wayS ds 0 ∧ nthS ds (after.length - 0) 0 y = All.drop 0 ∧ (All.take 0).length = 0) := ⟨hpp, idealA_zero _, card_zero, hyw, by rw [Nat.sub_zero, hAll]; rfl, rfl⟩
  clear hAll hyw
  (refine callsV_of Tryd.func36 rfl KR KR ?_; rw [Tryd.results36])
  (repeat' first
    | ((with_reducible refine at_row ?_); refine row1_a fun _ _ _ _ _ _ _ => ?_)
    | with_reducible first | (first | apply alloc_k | apply row_k); intro _ _ _ _ _ _ | (first | apply fork | apply forkp) <;> intro _ | refine forke (fun _ => ?_) fun _ _ => ?_ | refine tail_k fun _ _ _ => ?_ | refine ext_k fun _ _ _ => ?_ | refine need_a ?_ | refine st_agg KR rfl ON fun _ _ _ _ => ?_ | refine wpd_q_a ?_
    | ((with_reducible refine at_f 31 ?_); refine ret_k (hva _ FR FR) fun _ _ _ => ?_)
    | simp (maxDischargeDepth := 3) only [↓X, ↓Y, ↓Q, S1, ↓reduceIte, Nat.reduceEqDiff, Nat.reduceAdd, Int.reduceLT, Int.reduceLE, Int.reduceNeg, Int.reduceBEq, Int.reduceBNe, Int.reduceEq, Nat.reduceLeDiff, Nat.reduceMul, Nat.reduceLT, *]
    | simp (singlePass := true) (maxDischargeDepth := 99) only [*, S2, Nat.reduceLT])
  refine call_k (hwy.out _ FR FR) ?_
  rintro _ w6 n6 s6 ⟨b, rfl, hbk, hbs⟩
  have kb := hbk.bk
  clear hbk
  (repeat' first
    | ((with_reducible refine at_row ?_); refine row1_a fun _ _ _ _ _ _ _ => ?_)
    | with_reducible first | (first | apply alloc_k | apply row_k); intro _ _ _ _ _ _ | (first | apply fork | apply forkp) <;> intro _ | refine forke (fun _ => ?_) fun _ _ => ?_ | refine tail_k fun _ _ _ => ?_ | refine ext_k fun _ _ _ => ?_ | refine need_a ?_ | refine st_agg KR rfl ON fun _ _ _ _ => ?_ | refine wpd_q_a ?_
    | simp (maxDischargeDepth := 3) only [↓X, ↓Y, ↓Q, S1, ↓reduceIte, Nat.reduceEqDiff, Nat.reduceAdd, Int.reduceLT, Int.reduceLE, Int.reduceNeg, Int.reduceBEq, Int.reduceBNe, Int.reduceEq, Nat.reduceLeDiff, Nat.reduceMul, Nat.reduceLT, *]
    | simp (singlePass := true) (maxDischargeDepth := 99) only [*, S2, Nat.reduceLT])
  refine loop_o after.length (fun w0 g0 k g w' => (g 0 = g0 0 ∧ g 7 = g0 7) ∧ ∃ s y : Nat, g 9 = .int .i64 s ∧ g 1 = .int .i64 y ∧ ∃ o, g 8 = o ∧ Own w' w0.heap.size 3 1 o ((All.take k).map natC) ∧ Hid (s < M ∧ idealA ls s = true ∧ card s = k ∧ y < wayS ds s ∧ nthS ds (after.length - k) s y = All.drop k ∧ (All.take k).length = k)) KR (by omega) ?_ ?_ ?_
  · (repeat' first
    | ((with_reducible refine at_row ?_); refine row1_a fun _ _ _ _ _ _ _ => ?_)
    | with_reducible first | (first | apply alloc_k | apply row_k); intro _ _ _ _ _ _ | (first | apply fork | apply forkp) <;> intro _ | refine forke (fun _ => ?_) fun _ _ => ?_ | refine tail_k fun _ _ _ => ?_ | refine ext_k fun _ _ _ => ?_ | refine need_a ?_ | refine st_agg KR rfl ON fun _ _ _ _ => ?_ | refine wpd_q_a ?_
    | simp (maxDischargeDepth := 3) only [↓X, ↓Y, ↓Q, S1, ↓reduceIte, Nat.reduceEqDiff, Nat.reduceAdd, Int.reduceLT, Int.reduceLE, Int.reduceNeg, Int.reduceBEq, Int.reduceBNe, Int.reduceEq, Nat.reduceLeDiff, Nat.reduceMul, Nat.reduceLT, *]
    | simp (singlePass := true) (maxDischargeDepth := 99) only [*, S2, Nat.reduceLT])
    obtain ⟨i1, i2, i3, i4, i5, i6⟩ := I0.out
    exact ⟨0, y, rfl, rfl, _, rfl, Own.nil _ _ _ _, i1, i2, i3, i4, i5, i6⟩
  · rintro k m g wk hk hlt nk sk bk hw ⟨hf, s, y, h9, h1y, o, h8, hown, hp2⟩
    simp (maxDischargeDepth := 3) only [U, ↓reduceIte, Nat.reduceEqDiff, *] at hf
    obtain ⟨hsM, his, hcd, hy, hnt, htl2⟩ := hp2.out
    have O1 := hown.o
    have KO := (hown.sl1 (f := natV)).v (Nat.le_refl _)
    have hlo : lenN o = k := KO.2.2.1.trans htl2
    obtain ⟨i0, k0, hpk, hi0, hb0, hk0, hk0y, hc0, hs0, hnx⟩ := hnst.out k s y hlt hcd hsM hy
    rw [hnt] at hnx
    have hka : k < All.length := by
      have := congrArg List.length hnx
      simp only [List.length_drop, List.length_cons] at this
      omega
    have htk : All.take (k + 1) = All.take k ++ [i0] := by
      rw [appLL_take hka]
      rw [List.drop_eq_getElem_cons hka] at hnx
      rw [(List.cons.inj hnx).1]
    have hdr : nthS ds (after.length - (k + 1)) (s ||| 2 ^ i0) k0 = All.drop (k + 1) := by
      rw [List.drop_eq_getElem_cons hka] at hnx
      exact (List.cons.inj hnx).2.symm
    have hs4 : s < 4096 := by omega
    have hEe := hde.out s his
    have hyl : y ≤ 8916100448256 := by have := hws.out s; omega
    have htl3 : (All.take (k + 1)).length = k + 1 := by rw [htk, List.length_append, htl2]; rfl
    have hle : (All.take k).length < 1000000000000 := by rw [htl2]; omega
    have hem := fun i (h : i ∈ enabA ls s) => enabA_mem h
    have hEl := lst_len12 (rdyF s 0 ds)
    rw [← hEe] at hpk hEl
    have hid0 := (enabA_mem (pick_mem hpk)).2.2
    have NX : Hid (s ||| 2 ^ i0 < M ∧ idealA ls (s ||| 2 ^ i0) = true ∧ card (s ||| 2 ^ i0) = k + 1 ∧ k0 < wayS ds (s ||| 2 ^ i0) ∧ nthS ds (after.length - (k + 1)) (s ||| 2 ^ i0) k0 = All.drop (k + 1) ∧ (All.take (k + 1)).length = k + 1) := ⟨hs0, hid0, hc0, hk0, hdr, htl3⟩
    replace htk : Hid _ := htk
    have hltI : ((k : Int) < (after.length : Int)) := by omega
    have hown' : Hid _ := hown
    clear hnx hnt hs0 hc0 hk0 hp2 hown hka hdr htl3 hid0 hEe
    (repeat' first
    | ((with_reducible refine at_row ?_); refine row1_a fun _ _ _ _ _ _ _ => ?_)
    | with_reducible first | (first | apply alloc_k | apply row_k); intro _ _ _ _ _ _ | (first | apply fork | apply forkp) <;> intro _ | refine forke (fun _ => ?_) fun _ _ => ?_ | refine tail_k fun _ _ _ => ?_ | refine ext_k fun _ _ _ => ?_ | refine need_a ?_ | refine st_agg KR rfl ON fun _ _ _ _ => ?_ | refine wpd_q_a ?_
    | simp (maxDischargeDepth := 3) only [↓X, ↓Y, ↓Q, S1, ↓reduceIte, Nat.reduceEqDiff, Nat.reduceAdd, Int.reduceLT, Int.reduceLE, Int.reduceNeg, Int.reduceBEq, Int.reduceBNe, Int.reduceEq, Nat.reduceLeDiff, Nat.reduceMul, Nat.reduceLT, *]
    | simp (singlePass := true) (maxDischargeDepth := 99) only [*, S2, Nat.reduceLT])
    refine call_k (hen.out s hs4 _ FR FR) ?_
    intro u w7 n7 s7 hu
    have KU := (hu.sl1 (f := natV)).k (Nat.le_refl _)
    generalize enabA ls s = E at *
    have P0 : Hid (pickN (fun i => wayS ds (s ||| 2 ^ i)) (E.drop 0) y = some (i0, k0)) := hpk
    replace hem : Hid _ := hem
    clear hu hpk
    (repeat' first
    | ((with_reducible refine at_row ?_); refine row1_a fun _ _ _ _ _ _ _ => ?_)
    | with_reducible first | (first | apply alloc_k | apply row_k); intro _ _ _ _ _ _ | (first | apply fork | apply forkp) <;> intro _ | refine forke (fun _ => ?_) fun _ _ => ?_ | refine tail_k fun _ _ _ => ?_ | refine ext_k fun _ _ _ => ?_ | refine need_a ?_ | refine st_agg KR rfl ON fun _ _ _ _ => ?_ | refine wpd_q_a ?_
    | simp (maxDischargeDepth := 3) only [↓X, ↓Y, ↓Q, S1, ↓reduceIte, Nat.reduceEqDiff, Nat.reduceAdd, Int.reduceLT, Int.reduceLE, Int.reduceNeg, Int.reduceBEq, Int.reduceBNe, Int.reduceEq, Nat.reduceLeDiff, Nat.reduceMul, Nat.reduceLT, *]
    | simp (singlePass := true) (maxDischargeDepth := 99) only [*, S2, Nat.reduceLT])
    refine loop_cut 2 (fun g' w' => (g' 0 = v ∧ g' 7 = .slice (some ⟨b, 0, none⟩) M M) ∧ Ext w6 w' ∧ g' 1 = .int .i64 k0 ∧ g' 9 = .int .i64 (s ||| 2 ^ i0 : Nat) ∧ ∃ o', g' 8 = o' ∧ Own w' w6.heap.size 3 1 o' ((All.take (k + 1)).map natC)) ?_ ?_
    · refine loop_k E.length (fun g0 j g w' => g 37 = .int .i64 j ∧ g 0 = g0 0 ∧ g 7 = g0 7 ∧ g 9 = g0 9 ∧ g 8 = g0 8 ∧ g 35 = g0 35 ∧ g 36 = g0 36 ∧ ∃ y : Nat, g 1 = .int .i64 y ∧ Hid (y ≤ 8916100448256 ∧ pickN (fun i => wayS ds (s ||| 2 ^ i)) (E.drop j) y = some (i0, k0))) KR (by omega) ?_ ?_ ?_
      · (repeat' first
    | ((with_reducible refine at_row ?_); refine row1_a fun _ _ _ _ _ _ _ => ?_)
    | with_reducible first | (first | apply alloc_k | apply row_k); intro _ _ _ _ _ _ | (first | apply fork | apply forkp) <;> intro _ | refine forke (fun _ => ?_) fun _ _ => ?_ | refine tail_k fun _ _ _ => ?_ | refine ext_k fun _ _ _ => ?_ | refine need_a ?_ | refine st_agg KR rfl ON fun _ _ _ _ => ?_ | refine wpd_q_a ?_
    | simp (maxDischargeDepth := 3) only [↓X, ↓Y, ↓Q, S1, ↓reduceIte, Nat.reduceEqDiff, Nat.reduceAdd, Int.reduceLT, Int.reduceLE, Int.reduceNeg, Int.reduceBEq, Int.reduceBNe, Int.reduceEq, Nat.reduceLeDiff, Nat.reduceMul, Nat.reduceLT, *]
    | simp (singlePass := true) (maxDischargeDepth := 99) only [*, S2, Nat.reduceLT])
        exact ⟨_, rfl, hyl, P0.out⟩
      · rintro j m2 g2 w2 hk2 hlt2 n2 s2 b2 hw2 ⟨hi2, hf2, hf3, hf4, hf5, hf6, hf7, y2, h12y, hp2⟩
        simp (maxDischargeDepth := 3) only [U, ↓reduceIte, Nat.reduceEqDiff, *] at hf2 hf3 hf4 hf5 hf6 hf7
        obtain ⟨hy2, hpk⟩ := hp2.out
        obtain ⟨i1, i2, i3⟩ := hem.out _ (List.getElem_mem hlt2)
        rw [List.drop_eq_getElem_cons hlt2, pickN] at hpk
        generalize hie : E[j] = i at *
        rw [hnl] at i1
        have h12' := hn12.out
        have e5 := shlI_nat (k := i) (by omega)
        have h2i := two_pow_le (k := i) (by omega)
        have e6 := orI_nat (a := s) (b := 2 ^ i) (by omega) (by omega)
        have hor := horl.out s i hsM i1
        have htb := htab.out _ hor i3
        have g2' : (O.map natV)[s ||| 2 ^ i]? = some (.int .i64 (O.getD (s ||| 2 ^ i) 0 : Nat)) := rowN_get (by omega)
        rw [htb] at g2'
        have hwi := hws.out (s ||| 2 ^ i)
        clear hp2 htb h12' i2 i3
        by_cases hlt3 : y2 < wayS ds (s ||| 2 ^ i)
        · rw [if_pos hlt3] at hpk
          obtain ⟨rfl, rfl⟩ := Prod.mk.inj (Option.some.inj hpk)
          have hltI : ((y2 : Int) < (wayS ds (s ||| 2 ^ i) : Nat)) := by omega
          have h6w : Bl w6.heap.size w6 w2 := FR
          clear hpk
          (repeat' first
    | ((with_reducible refine at_row ?_); refine row1_a fun _ _ _ _ _ _ _ => ?_)
    | with_reducible first | (first | apply alloc_k | apply row_k); intro _ _ _ _ _ _ | (first | apply fork | apply forkp) <;> intro _ | refine forke (fun _ => ?_) fun _ _ => ?_ | refine tail_k fun _ _ _ => ?_ | refine ext_k fun _ _ _ => ?_ | refine need_a ?_ | refine st_agg KR rfl ON fun _ _ _ _ => ?_ | refine wpd_q_a ?_
    | simp (maxDischargeDepth := 3) only [↓X, ↓Y, ↓Q, S1, ↓reduceIte, Nat.reduceEqDiff, Nat.reduceAdd, Int.reduceLT, Int.reduceLE, Int.reduceNeg, Int.reduceBEq, Int.reduceBNe, Int.reduceEq, Nat.reduceLeDiff, Nat.reduceMul, Nat.reduceLT, *, hie]
    | simp (singlePass := true) (maxDischargeDepth := 99) only [*, S2, Nat.reduceLT, hie])
          rename_i b10 w10 n10 k10 s10 q10 l10
          have hO10 : Own w10 w6.heap.size 3 1 o ((All.take k).map natC) := O1.1 _ FR
          refine appN i hO10 (k10.2.1 _ FR) hle FR fun v' w9 n9 s9 hown9 => ?_
          rw [← htk.out] at hown9
          have hO9 : Hid _ := hown9
          have o9 := hown9.one
          clear hown9
          (repeat' first
    | ((with_reducible refine at_row ?_); refine row1_a fun _ _ _ _ _ _ _ => ?_)
    | with_reducible first | (first | apply alloc_k | apply row_k); intro _ _ _ _ _ _ | (first | apply fork | apply forkp) <;> intro _ | refine forke (fun _ => ?_) fun _ _ => ?_ | refine tail_k fun _ _ _ => ?_ | refine ext_k fun _ _ _ => ?_ | refine need_a ?_ | refine st_agg KR rfl ON fun _ _ _ _ => ?_ | refine wpd_q_a ?_
    | simp (maxDischargeDepth := 3) only [↓X, ↓Y, ↓Q, S1, ↓reduceIte, Nat.reduceEqDiff, Nat.reduceAdd, Int.reduceLT, Int.reduceLE, Int.reduceNeg, Int.reduceBEq, Int.reduceBNe, Int.reduceEq, Nat.reduceLeDiff, Nat.reduceMul, Nat.reduceLT, *, cutX]
    | simp (singlePass := true) (maxDischargeDepth := 99) only [*, S2, Nat.reduceLT, cutX])
          exact ⟨Bl.toExt (a := w6) FR, _, rfl, hO9.out⟩
        · rw [if_neg hlt3] at hpk
          have hltI : ¬ ((y2 : Int) < (wayS ds (s ||| 2 ^ i) : Nat)) := by omega
          have hw9 : IntKind.i64.wrap ((y2 : Int) - (wayS ds (s ||| 2 ^ i) : Nat)) = ((y2 - wayS ds (s ||| 2 ^ i) : Nat) : Int) := by
            rw [show (y2 : Int) - (wayS ds (s ||| 2 ^ i) : Nat) = ((y2 - wayS ds (s ||| 2 ^ i) : Nat) : Int) by omega, wrap_nat (by omega)]
          have J2 : Hid (pickN (fun i => wayS ds (s ||| 2 ^ i)) (E.drop (j + 1)) (y2 - wayS ds (s ||| 2 ^ i)) = some (i0, k0)) := hpk
          clear hpk
          (repeat' first
    | ((with_reducible refine at_row ?_); refine row1_a fun _ _ _ _ _ _ _ => ?_)
    | with_reducible first | (first | apply alloc_k | apply row_k); intro _ _ _ _ _ _ | (first | apply fork | apply forkp) <;> intro _ | refine forke (fun _ => ?_) fun _ _ => ?_ | refine tail_k fun _ _ _ => ?_ | refine ext_k fun _ _ _ => ?_ | refine need_a ?_ | refine st_agg KR rfl ON fun _ _ _ _ => ?_ | refine wpd_q_a ?_
    | simp (maxDischargeDepth := 3) only [↓X, ↓Y, ↓Q, S1, ↓reduceIte, Nat.reduceEqDiff, Nat.reduceAdd, Int.reduceLT, Int.reduceLE, Int.reduceNeg, Int.reduceBEq, Int.reduceBNe, Int.reduceEq, Nat.reduceLeDiff, Nat.reduceMul, Nat.reduceLT, *, hie, hw9]
    | simp (singlePass := true) (maxDischargeDepth := 99) only [*, S2, Nat.reduceLT, hie, hw9])
          refine next_k hk2 hlt2 ?_ FR
          (repeat' first
    | ((with_reducible refine at_row ?_); refine row1_a fun _ _ _ _ _ _ _ => ?_)
    | with_reducible first | (first | apply alloc_k | apply row_k); intro _ _ _ _ _ _ | (first | apply fork | apply forkp) <;> intro _ | refine forke (fun _ => ?_) fun _ _ => ?_ | refine tail_k fun _ _ _ => ?_ | refine ext_k fun _ _ _ => ?_ | refine need_a ?_ | refine st_agg KR rfl ON fun _ _ _ _ => ?_ | refine wpd_q_a ?_
    | simp (maxDischargeDepth := 3) only [↓X, ↓Y, ↓Q, S1, ↓reduceIte, Nat.reduceEqDiff, Nat.reduceAdd, Int.reduceLT, Int.reduceLE, Int.reduceNeg, Int.reduceBEq, Int.reduceBNe, Int.reduceEq, Nat.reduceLeDiff, Nat.reduceMul, Nat.reduceLT, *]
    | simp (singlePass := true) (maxDischargeDepth := 99) only [*, S2, Nat.reduceLT])
          exact ⟨_, rfl, by omega, J2.out⟩
      · rintro g2 w2 n2 s2 b2 ⟨hi2, hf2, hf3, hf4, hf5, hf6, hf7, y2, h12y, hp2⟩
        have := hp2.out.2
        rw [List.drop_length] at this
        cases this
    · rintro g2 w2 ⟨⟨hf6, hf8⟩, hck2, h1k, h10k, o', h9k, hown'⟩
      have n2 : Now w2 := trivial
      have s2 := hck2.st
      have O' := hown'.o
      clear hown'
      (repeat' first
    | ((with_reducible refine at_row ?_); refine row1_a fun _ _ _ _ _ _ _ => ?_)
    | with_reducible first | (first | apply alloc_k | apply row_k); intro _ _ _ _ _ _ | (first | apply fork | apply forkp) <;> intro _ | refine forke (fun _ => ?_) fun _ _ => ?_ | refine tail_k fun _ _ _ => ?_ | refine ext_k fun _ _ _ => ?_ | refine need_a ?_ | refine st_agg KR rfl ON fun _ _ _ _ => ?_ | refine wpd_q_a ?_
    | simp (maxDischargeDepth := 3) only [↓X, ↓Y, ↓Q, S1, ↓reduceIte, Nat.reduceEqDiff, Nat.reduceAdd, Int.reduceLT, Int.reduceLE, Int.reduceNeg, Int.reduceBEq, Int.reduceBNe, Int.reduceEq, Nat.reduceLeDiff, Nat.reduceMul, Nat.reduceLT, *]
    | simp (singlePass := true) (maxDischargeDepth := 99) only [*, S2, Nat.reduceLT])
      refine next_k hk hlt ?_ FR
      (repeat' first
    | ((with_reducible refine at_row ?_); refine row1_a fun _ _ _ _ _ _ _ => ?_)
    | with_reducible first | (first | apply alloc_k | apply row_k); intro _ _ _ _ _ _ | (first | apply fork | apply forkp) <;> intro _ | refine forke (fun _ => ?_) fun _ _ => ?_ | refine tail_k fun _ _ _ => ?_ | refine ext_k fun _ _ _ => ?_ | refine need_a ?_ | refine st_agg KR rfl ON fun _ _ _ _ => ?_ | refine wpd_q_a ?_
    | simp (maxDischargeDepth := 3) only [↓X, ↓Y, ↓Q, S1, ↓reduceIte, Nat.reduceEqDiff, Nat.reduceAdd, Int.reduceLT, Int.reduceLE, Int.reduceNeg, Int.reduceBEq, Int.reduceBNe, Int.reduceEq, Nat.reduceLeDiff, Nat.reduceMul, Nat.reduceLT, *]
    | simp (singlePass := true) (maxDischargeDepth := 99) only [*, S2, Nat.reduceLT])
      exact ⟨_, _, rfl, rfl, _, rfl, O'.1 _ FR, NX.out⟩
  · rintro g wk nk sk bk ⟨hf, s, y2, h9, h1y, o, h8, hown, hp2⟩
    simp (maxDischargeDepth := 3) only [U, ↓reduceIte, Nat.reduceEqDiff, *] at hf
    obtain ⟨hsM, his, hcd, hy, hnt, htl2⟩ := hp2.out
    have O1 := hown.o
    have KO := (hown.sl1 (f := natV)).v (Nat.le_refl _)
    have hlo : lenN o = after.length := KO.2.2.1.trans htl2
    have hAll' : Hid (All.take after.length = All) := by
      show All.take after.length = All
      rw [Nat.sub_self, nthS] at hnt
      have := congrArg List.length hnt
      simp only [List.length_nil, List.length_drop] at this
      exact List.take_of_length_le (by omega)
    have h5w : w.heap.size ≤ w6.heap.size := FR
    have hown9 : Hid (Own wk w6.heap.size 3 1 o ((All.take after.length).map natC)) := hown
    have oo := hown.one
    have hni : ¬ ((after.length : Int) < (after.length : Int)) := by omega
    clear hown hp2 hnt O1
    (repeat' first
    | ((with_reducible refine at_row ?_); refine row1_a fun _ _ _ _ _ _ _ => ?_)
    | with_reducible first | (first | apply alloc_k | apply row_k); intro _ _ _ _ _ _ | (first | apply fork | apply forkp) <;> intro _ | refine forke (fun _ => ?_) fun _ _ => ?_ | refine tail_k fun _ _ _ => ?_ | refine ext_k fun _ _ _ => ?_ | refine need_a ?_ | refine st_agg KR rfl ON fun _ _ _ _ => ?_ | refine wpd_q_a ?_
    | simp (maxDischargeDepth := 3) only [↓X, ↓Y, ↓Q, S1, ↓reduceIte, Nat.reduceEqDiff, Nat.reduceAdd, Int.reduceLT, Int.reduceLE, Int.reduceNeg, Int.reduceBEq, Int.reduceBNe, Int.reduceEq, Nat.reduceLeDiff, Nat.reduceMul, Nat.reduceLT, *]
    | simp (singlePass := true) (maxDischargeDepth := 99) only [*, S2, Nat.reduceLT])
    refine ⟨_, rfl, ?_⟩
    have := hown9.out.more h5w
    rwa [hAll'.out] at this
theorem lawOrderLines {x : Int} {lv av : Value} {line : List Int} (hxr : -9223372036854775808 ≤ x ∧ x ≤ 9223372036854775807) (hT : TabW w) (hB : B ≤ w.heap.size) (hv : LLR w B av vs after) (hl0 : Sl w B none 1 lv (line.map intV)) : Ret Tryd.prog 6 #[av, intV x, lv] w (.bool true) := by
  have hn : Now w := trivial
  have hx : Ext w w := Ext.refl w
  have hT' := fun w' (h : Ext w w') => hT.ext h
  replace hT' : Hid _ := hT'
  have hV0 := fun w' (h : Bl B w w') => hv.blz h
  replace hV0 : Hid _ := hV0
  have b0 : Bl B w w := Bl.refl hB
  have dt : ∀ (x : List Int), decide (x = x) = true := fun x => decide_eq_true rfl
  replace dt : Hid _ := dt
  have hlm : min line.length 14 ≤ (line.map intV).length := by rw [List.length_map]; omega
  have hcut := hl0.hi hlm
  have hct : line.take (min line.length 14) = line.take 14 := by rw [← List.take_take, List.take_of_length_le (i := line.length)]; simp; omega
  rw [← List.map_take, hct] at hcut
  have hC := fun w' (h : Bl B w w') => hcut.bl h
  have KC := hcut.k hB
  have KL := hl0.k hB
  have hLL := fun w' (h : Bl B w w') => hl0.bl h
  replace hLL : Hid _ := hLL
  replace hC : Hid _ := hC
  have hmin : (if (14 : Int) < (line.length : Int) then (14 : Int) else (line.length : Int)) = ((min line.length 14 : Nat) : Int) := by split <;> omega
  have hll14 : (line.take 14).length ≤ 1000000 := by rw [List.length_take]; omega
  have cone : (cutV 1 lv 0 (min line.length 14) (capN lv)).oneCell' = true := hcut.one
  replace hct : Hid _ := hct
  clear hcut hl0
  (refine callsV_of Tryd.func6 rfl KR KR ?_; rw [Tryd.results6])
  (repeat' first
    | ((with_reducible refine wpd_at 1 ?_); refine wpd_hold ?_)
    | ((with_reducible refine at_row ?_); refine row1_a fun _ _ _ _ _ _ _ => ?_)
    | with_reducible first | (first | apply alloc_k | apply row_k); intro _ _ _ _ _ _ | (first | apply fork | apply forkp) <;> intro _ | refine forke (fun _ => ?_) fun _ _ => ?_ | refine tail_k fun _ _ _ => ?_ | refine ext_k fun _ _ _ => ?_ | refine need_a ?_ | refine st_agg KR rfl ON fun _ _ _ _ => ?_ | refine wpd_q_a ?_
    | simp (maxDischargeDepth := 3) only [↓X, ↓Y, ↓Q, S1, ↓reduceIte, Nat.reduceEqDiff, Nat.reduceAdd, Int.reduceLT, Int.reduceLE, Int.reduceNeg, Int.reduceBEq, Int.reduceBNe, Int.reduceEq, Nat.reduceLeDiff, Nat.reduceMul, Nat.reduceLT, *]
    | simp (singlePass := true) (maxDischargeDepth := 99) only [*, S2, Nat.reduceLT])
  unfold wpdH
  refine wpd_relW 8 (fun iI v w9 => match iI with
    | 0 => v = av
    | 1 => OwnLI w9 w.heap.size v (ownA after)
    | 2 => v = lv
    | 3 => v = lv
    | 4 => v = .int .i64 (line.length : Nat)
    | 5 => v = .int .i64 (min line.length 14 : Nat)
    | 6 => v = cutV 1 lv 0 (min line.length 14) (capN lv)
    | 7 => OwnLI w9 w.heap.size v (ownA after)
    | _ => False) KR KR KR ?_ ?_ ?_
  · intro iI v w1 w2 hR hx9
    match iI, hR with
    | 0, h => exact h
    | 1, h => exact OwnLI.ext h hx9
    | 2, h => exact h
    | 3, h => exact h
    | 4, h => exact h
    | 5, h => exact h
    | 6, h => exact h
    | 7, h => exact OwnLI.ext h hx9
  · intro iI oO hi ho gF w9 hx9 hdep hag hun
    have s9 := hx9.st
    have n9 : Now w9 := trivial
    have r9 := Ext.refl w9
    have z9 := hx9.size
    rcases iI with _|_|_|_|_|_|_|_|iI
    · have e := Option.some.inj ho
      subst e
      have a0 := hun 7 _ 0 (by decide) rfl rfl KR
      simp only [S5, ↓reduceIte, Nat.reduceEqDiff, initF, *] at a0
      clear hag hun hdep ho
      refine relStep_off rfl ?_
      (repeat' first
    | refine sl_hi (hLL.out _ FR) hlm ?_
    | ((with_reducible refine at_row ?_); refine row1_a fun _ _ _ _ _ _ _ => ?_)
    | with_reducible first | (first | apply alloc_k | apply row_k); intro _ _ _ _ _ _ | (first | apply fork | apply forkp) <;> intro _ | refine forke (fun _ => ?_) fun _ _ => ?_ | refine tail_k fun _ _ _ => ?_ | refine ext_k fun _ _ _ => ?_ | refine need_a ?_ | refine st_agg KR rfl ON fun _ _ _ _ => ?_ | refine wpd_q_a ?_
    | simp (maxDischargeDepth := 3) only [↓X, ↓Y, ↓Q, S1, ↓reduceIte, Nat.reduceEqDiff, Nat.reduceAdd, Int.reduceLT, Int.reduceLE, Int.reduceNeg, Int.reduceBEq, Int.reduceBNe, Int.reduceEq, Nat.reduceLeDiff, Nat.reduceMul, Nat.reduceLT, *, hmin]
    | simp (singlePass := true) (maxDischargeDepth := 99) only [*, S2, Nat.reduceLT, hmin])
    · have e := Option.some.inj ho
      subst e
      have d0 : (gF 15) = av := hdep ⟨0, .data⟩ (by simp) rfl _ _ rfl rfl
      clear hag hun hdep ho
      refine relStep_off rfl ?_
      (repeat' first
    | refine sl_hi (hLL.out _ FR) hlm ?_
    | ((with_reducible refine at_row ?_); refine row1_a fun _ _ _ _ _ _ _ => ?_)
    | with_reducible first | (first | apply alloc_k | apply row_k); intro _ _ _ _ _ _ | (first | apply fork | apply forkp) <;> intro _ | refine forke (fun _ => ?_) fun _ _ => ?_ | refine tail_k fun _ _ _ => ?_ | refine ext_k fun _ _ _ => ?_ | refine need_a ?_ | refine st_agg KR rfl ON fun _ _ _ _ => ?_ | refine wpd_q_a ?_
    | simp (maxDischargeDepth := 3) only [↓X, ↓Y, ↓Q, S1, ↓reduceIte, Nat.reduceEqDiff, Nat.reduceAdd, Int.reduceLT, Int.reduceLE, Int.reduceNeg, Int.reduceBEq, Int.reduceBNe, Int.reduceEq, Nat.reduceLeDiff, Nat.reduceMul, Nat.reduceLT, *, hmin]
    | simp (singlePass := true) (maxDischargeDepth := 99) only [*, S2, Nat.reduceLT, hmin])
      refine CallsV.mono (law10own (B := B) FR (hV0.out _ FR)) fun v w10 hh => ⟨hh.1, OwnLI.more hh.2 z9⟩
    · have e := Option.some.inj ho
      subst e
      have a2 := hag.at 2 KR
      simp only [S5, ↓reduceIte, Nat.reduceEqDiff, initF, *] at a2
      clear hag hun hdep ho
      refine relStep_off rfl ?_
      (repeat' first
    | refine sl_hi (hLL.out _ FR) hlm ?_
    | ((with_reducible refine at_row ?_); refine row1_a fun _ _ _ _ _ _ _ => ?_)
    | with_reducible first | (first | apply alloc_k | apply row_k); intro _ _ _ _ _ _ | (first | apply fork | apply forkp) <;> intro _ | refine forke (fun _ => ?_) fun _ _ => ?_ | refine tail_k fun _ _ _ => ?_ | refine ext_k fun _ _ _ => ?_ | refine need_a ?_ | refine st_agg KR rfl ON fun _ _ _ _ => ?_ | refine wpd_q_a ?_
    | simp (maxDischargeDepth := 3) only [↓X, ↓Y, ↓Q, S1, ↓reduceIte, Nat.reduceEqDiff, Nat.reduceAdd, Int.reduceLT, Int.reduceLE, Int.reduceNeg, Int.reduceBEq, Int.reduceBNe, Int.reduceEq, Nat.reduceLeDiff, Nat.reduceMul, Nat.reduceLT, *, hmin]
    | simp (singlePass := true) (maxDischargeDepth := 99) only [*, S2, Nat.reduceLT, hmin])
    · have e := Option.some.inj ho
      subst e
      have a2 := hag.at 2 KR
      simp only [S5, ↓reduceIte, Nat.reduceEqDiff, initF, *] at a2
      clear hag hun hdep ho
      refine relStep_off rfl ?_
      (repeat' first
    | refine sl_hi (hLL.out _ FR) hlm ?_
    | ((with_reducible refine at_row ?_); refine row1_a fun _ _ _ _ _ _ _ => ?_)
    | with_reducible first | (first | apply alloc_k | apply row_k); intro _ _ _ _ _ _ | (first | apply fork | apply forkp) <;> intro _ | refine forke (fun _ => ?_) fun _ _ => ?_ | refine tail_k fun _ _ _ => ?_ | refine ext_k fun _ _ _ => ?_ | refine need_a ?_ | refine st_agg KR rfl ON fun _ _ _ _ => ?_ | refine wpd_q_a ?_
    | simp (maxDischargeDepth := 3) only [↓X, ↓Y, ↓Q, S1, ↓reduceIte, Nat.reduceEqDiff, Nat.reduceAdd, Int.reduceLT, Int.reduceLE, Int.reduceNeg, Int.reduceBEq, Int.reduceBNe, Int.reduceEq, Nat.reduceLeDiff, Nat.reduceMul, Nat.reduceLT, *, hmin]
    | simp (singlePass := true) (maxDischargeDepth := 99) only [*, S2, Nat.reduceLT, hmin])
    · have e := Option.some.inj ho
      subst e
      have d3 : (gF 18) = lv := hdep ⟨3, .data⟩ (by simp) rfl _ _ rfl rfl
      clear hag hun hdep ho
      refine relStep_off rfl ?_
      (repeat' first
    | refine sl_hi (hLL.out _ FR) hlm ?_
    | ((with_reducible refine at_row ?_); refine row1_a fun _ _ _ _ _ _ _ => ?_)
    | with_reducible first | (first | apply alloc_k | apply row_k); intro _ _ _ _ _ _ | (first | apply fork | apply forkp) <;> intro _ | refine forke (fun _ => ?_) fun _ _ => ?_ | refine tail_k fun _ _ _ => ?_ | refine ext_k fun _ _ _ => ?_ | refine need_a ?_ | refine st_agg KR rfl ON fun _ _ _ _ => ?_ | refine wpd_q_a ?_
    | simp (maxDischargeDepth := 3) only [↓X, ↓Y, ↓Q, S1, ↓reduceIte, Nat.reduceEqDiff, Nat.reduceAdd, Int.reduceLT, Int.reduceLE, Int.reduceNeg, Int.reduceBEq, Int.reduceBNe, Int.reduceEq, Nat.reduceLeDiff, Nat.reduceMul, Nat.reduceLT, *, hmin]
    | simp (singlePass := true) (maxDischargeDepth := 99) only [*, S2, Nat.reduceLT, hmin])
    · have e := Option.some.inj ho
      subst e
      have d4 : (gF 19) = .int .i64 (line.length : Nat) := hdep ⟨4, .data⟩ (by simp) rfl _ _ rfl rfl
      clear hag hun hdep ho
      refine relStep_off rfl ?_
      (repeat' first
    | refine sl_hi (hLL.out _ FR) hlm ?_
    | ((with_reducible refine at_row ?_); refine row1_a fun _ _ _ _ _ _ _ => ?_)
    | with_reducible first | (first | apply alloc_k | apply row_k); intro _ _ _ _ _ _ | (first | apply fork | apply forkp) <;> intro _ | refine forke (fun _ => ?_) fun _ _ => ?_ | refine tail_k fun _ _ _ => ?_ | refine ext_k fun _ _ _ => ?_ | refine need_a ?_ | refine st_agg KR rfl ON fun _ _ _ _ => ?_ | refine wpd_q_a ?_
    | simp (maxDischargeDepth := 3) only [↓X, ↓Y, ↓Q, S1, ↓reduceIte, Nat.reduceEqDiff, Nat.reduceAdd, Int.reduceLT, Int.reduceLE, Int.reduceNeg, Int.reduceBEq, Int.reduceBNe, Int.reduceEq, Nat.reduceLeDiff, Nat.reduceMul, Nat.reduceLT, *, hmin]
    | simp (singlePass := true) (maxDischargeDepth := 99) only [*, S2, Nat.reduceLT, hmin])
    · have e := Option.some.inj ho
      subst e
      have d2 : (gF 17) = lv := hdep ⟨2, .data⟩ (by simp) rfl _ _ rfl rfl
      have d5 : (gF 20) = .int .i64 (min line.length 14 : Nat) := hdep ⟨5, .data⟩ (by simp) rfl _ _ rfl rfl
      clear hag hun hdep ho
      refine relStep_off rfl ?_
      (repeat' first
    | refine sl_hi (hLL.out _ FR) hlm ?_
    | ((with_reducible refine at_row ?_); refine row1_a fun _ _ _ _ _ _ _ => ?_)
    | with_reducible first | (first | apply alloc_k | apply row_k); intro _ _ _ _ _ _ | (first | apply fork | apply forkp) <;> intro _ | refine forke (fun _ => ?_) fun _ _ => ?_ | refine tail_k fun _ _ _ => ?_ | refine ext_k fun _ _ _ => ?_ | refine need_a ?_ | refine st_agg KR rfl ON fun _ _ _ _ => ?_ | refine wpd_q_a ?_
    | simp (maxDischargeDepth := 3) only [↓X, ↓Y, ↓Q, S1, ↓reduceIte, Nat.reduceEqDiff, Nat.reduceAdd, Int.reduceLT, Int.reduceLE, Int.reduceNeg, Int.reduceBEq, Int.reduceBNe, Int.reduceEq, Nat.reduceLeDiff, Nat.reduceMul, Nat.reduceLT, *, hmin]
    | simp (singlePass := true) (maxDischargeDepth := 99) only [*, S2, Nat.reduceLT, hmin])
    · have e := Option.some.inj ho
      subst e
      have d1 : OwnLI w9 w.heap.size (gF 16) (ownA after) := hdep ⟨1, .data⟩ (by simp) rfl _ _ rfl rfl
      have one1 := OwnLI.one d1
      clear hag hun hdep ho
      refine relStep_off rfl ?_
      (repeat' first
    | refine sl_hi (hLL.out _ FR) hlm ?_
    | ((with_reducible refine at_row ?_); refine row1_a fun _ _ _ _ _ _ _ => ?_)
    | with_reducible first | (first | apply alloc_k | apply row_k); intro _ _ _ _ _ _ | (first | apply fork | apply forkp) <;> intro _ | refine forke (fun _ => ?_) fun _ _ => ?_ | refine tail_k fun _ _ _ => ?_ | refine ext_k fun _ _ _ => ?_ | refine need_a ?_ | refine st_agg KR rfl ON fun _ _ _ _ => ?_ | refine wpd_q_a ?_
    | simp (maxDischargeDepth := 3) only [↓X, ↓Y, ↓Q, S1, ↓reduceIte, Nat.reduceEqDiff, Nat.reduceAdd, Int.reduceLT, Int.reduceLE, Int.reduceNeg, Int.reduceBEq, Int.reduceBNe, Int.reduceEq, Nat.reduceLeDiff, Nat.reduceMul, Nat.reduceLT, *, hmin]
    | simp (singlePass := true) (maxDischargeDepth := 99) only [*, S2, Nat.reduceLT, hmin])
    · omega
  · intro g9 w9 hx9 hR hag
    have s9 := hx9.st
    have n9 : Now w9 := trivial
    have r9 := Ext.refl w9
    have z9 := hx9.size
    have d6 : (g9 21) = cutV 1 lv 0 (min line.length 14) (capN lv) := hR 6 _ _ (by decide) rfl rfl
    have d7 : OwnLI w9 w.heap.size (g9 0) (ownA after) := hR 7 _ _ (by decide) rfl rfl
    have one7 := OwnLI.one d7
    have a1 := hag.at 1 KR
    simp only [S5, ↓reduceIte, Nat.reduceEqDiff, initF, *] at a1
    clear hag hR
    simp only [List.drop_succ_cons, List.drop_zero]
    obtain ⟨us1, hr1⟩ := OwnLI.r d7
    generalize ho1 : g9 0 = o1 at *
    generalize ownA after = A at *
    have hV1 := fun w' (h : Bl w9.heap.size w9 w') => hr1.blz h
    replace hV1 : Hid _ := hV1
    have b1 : Bl w9.heap.size w9 w9 := Bl.refl (Nat.le_refl _)
    clear d7 hr1
    (repeat' first
    | ((with_reducible refine at_row ?_); refine row1_a fun _ _ _ _ _ _ _ => ?_)
    | with_reducible first | (first | apply alloc_k | apply row_k); intro _ _ _ _ _ _ | (first | apply fork | apply forkp) <;> intro _ | refine forke (fun _ => ?_) fun _ _ => ?_ | refine tail_k fun _ _ _ => ?_ | refine ext_k fun _ _ _ => ?_ | refine need_a ?_ | refine st_agg KR rfl ON fun _ _ _ _ => ?_ | refine wpd_q_a ?_
    | simp (maxDischargeDepth := 3) only [↓X, ↓Y, ↓Q, S1, ↓reduceIte, Nat.reduceEqDiff, Nat.reduceAdd, Int.reduceLT, Int.reduceLE, Int.reduceNeg, Int.reduceBEq, Int.reduceBNe, Int.reduceEq, Nat.reduceLeDiff, Nat.reduceMul, Nat.reduceLT, *]
    | simp (singlePass := true) (maxDischargeDepth := 99) only [*, S2, Nat.reduceLT])
    refine ret_k (orderCount (B := w9.heap.size) (hT'.out _ FR) FR (hV1.out _ FR)) fun w2 n2 s2 => ?_
    (repeat' first
    | ((with_reducible refine at_row ?_); refine row1_a fun _ _ _ _ _ _ _ => ?_)
    | with_reducible first | (first | apply alloc_k | apply row_k); intro _ _ _ _ _ _ | (first | apply fork | apply forkp) <;> intro _ | refine forke (fun _ => ?_) fun _ _ => ?_ | refine tail_k fun _ _ _ => ?_ | refine ext_k fun _ _ _ => ?_ | refine need_a ?_ | refine st_agg KR rfl ON fun _ _ _ _ => ?_ | refine wpd_q_a ?_
    | simp (maxDischargeDepth := 3) only [↓X, ↓Y, ↓Q, S1, ↓reduceIte, Nat.reduceEqDiff, Nat.reduceAdd, Int.reduceLT, Int.reduceLE, Int.reduceNeg, Int.reduceBEq, Int.reduceBNe, Int.reduceEq, Nat.reduceLeDiff, Nat.reduceMul, Nat.reduceLT, *]
    | simp (singlePass := true) (maxDischargeDepth := 99) only [*, S2, Nat.reduceLT])
    refine ret_k (ref10Count (B := w9.heap.size) FR (hV1.out _ FR)) fun w3 n3 s3 => ?_
    generalize countE (ofS A).1 (ofS A).2.1 = cc at *
    (repeat' first
    | ((with_reducible refine at_row ?_); refine row1_a fun _ _ _ _ _ _ _ => ?_)
    | with_reducible first | (first | apply alloc_k | apply row_k); intro _ _ _ _ _ _ | (first | apply fork | apply forkp) <;> intro _ | refine forke (fun _ => ?_) fun _ _ => ?_ | refine tail_k fun _ _ _ => ?_ | refine ext_k fun _ _ _ => ?_ | refine need_a ?_ | refine st_agg KR rfl ON fun _ _ _ _ => ?_ | refine wpd_q_a ?_
    | simp (maxDischargeDepth := 3) only [↓X, ↓Y, ↓Q, S1, ↓reduceIte, Nat.reduceEqDiff, Nat.reduceAdd, Int.reduceLT, Int.reduceLE, Int.reduceNeg, Int.reduceBEq, Int.reduceBNe, Int.reduceEq, Nat.reduceLeDiff, Nat.reduceMul, Nat.reduceLT, *]
    | simp (singlePass := true) (maxDischargeDepth := 99) only [*, S2, Nat.reduceLT])
    refine call_k (orderNth (B := w9.heap.size) hxr (hT'.out _ FR) FR (hV1.out _ FR)) ?_
    rintro _ w4 n4 s4 ⟨o4, rfl, ho4⟩
    have hs4 := ho4.sl1 (f := natV)
    rw [natC_ints] at hs4
    have one4 := ho4.one
    have hL4 := fun w' (h : Bl w4.heap.size w4 w') => hs4.bl h
    replace hL4 : Hid _ := hL4
    have b4 : Bl w4.heap.size w4 w4 := Bl.refl (Nat.le_refl _)
    clear ho4 hs4
    (repeat' first
    | ((with_reducible refine at_row ?_); refine row1_a fun _ _ _ _ _ _ _ => ?_)
    | with_reducible first | (first | apply alloc_k | apply row_k); intro _ _ _ _ _ _ | (first | apply fork | apply forkp) <;> intro _ | refine forke (fun _ => ?_) fun _ _ => ?_ | refine tail_k fun _ _ _ => ?_ | refine ext_k fun _ _ _ => ?_ | refine need_a ?_ | refine st_agg KR rfl ON fun _ _ _ _ => ?_ | refine wpd_q_a ?_
    | simp (maxDischargeDepth := 3) only [↓X, ↓Y, ↓Q, S1, ↓reduceIte, Nat.reduceEqDiff, Nat.reduceAdd, Int.reduceLT, Int.reduceLE, Int.reduceNeg, Int.reduceBEq, Int.reduceBNe, Int.reduceEq, Nat.reduceLeDiff, Nat.reduceMul, Nat.reduceLT, *]
    | simp (singlePass := true) (maxDischargeDepth := 99) only [*, S2, Nat.reduceLT])
    refine call_k (ref10Nth (B := w9.heap.size) hxr FR (hV1.out _ FR)) ?_
    rintro _ w5 n5 s5 ⟨o5, rfl, ho5⟩
    have hs5 := ho5.sl1 (f := natV)
    rw [natC_ints] at hs5
    have one5 := ho5.one
    have hL5 := fun w' (h : Bl w5.heap.size w5 w') => hs5.bl h
    replace hL5 : Hid _ := hL5
    have b5 : Bl w5.heap.size w5 w5 := Bl.refl (Nat.le_refl _)
    clear ho5 hs5
    (repeat' first
    | ((with_reducible refine at_row ?_); refine row1_a fun _ _ _ _ _ _ _ => ?_)
    | with_reducible first | (first | apply alloc_k | apply row_k); intro _ _ _ _ _ _ | (first | apply fork | apply forkp) <;> intro _ | refine forke (fun _ => ?_) fun _ _ => ?_ | refine tail_k fun _ _ _ => ?_ | refine ext_k fun _ _ _ => ?_ | refine need_a ?_ | refine st_agg KR rfl ON fun _ _ _ _ => ?_ | refine wpd_q_a ?_
    | simp (maxDischargeDepth := 3) only [↓X, ↓Y, ↓Q, S1, ↓reduceIte, Nat.reduceEqDiff, Nat.reduceAdd, Int.reduceLT, Int.reduceLE, Int.reduceNeg, Int.reduceBEq, Int.reduceBNe, Int.reduceEq, Nat.reduceLeDiff, Nat.reduceMul, Nat.reduceLT, *]
    | simp (singlePass := true) (maxDischargeDepth := 99) only [*, S2, Nat.reduceLT])
    refine ret_k (slicesEqualIn (B := w4.heap.size) (B' := w5.heap.size) FR FR (hL4.out _ FR) (hL5.out _ FR)) fun w6 n6 s6 => ?_
    rw [dt.out]
    (repeat' first
    | ((with_reducible refine at_row ?_); refine row1_a fun _ _ _ _ _ _ _ => ?_)
    | with_reducible first | (first | apply alloc_k | apply row_k); intro _ _ _ _ _ _ | (first | apply fork | apply forkp) <;> intro _ | refine forke (fun _ => ?_) fun _ _ => ?_ | refine tail_k fun _ _ _ => ?_ | refine ext_k fun _ _ _ => ?_ | refine need_a ?_ | refine st_agg KR rfl ON fun _ _ _ _ => ?_ | refine wpd_q_a ?_
    | simp (maxDischargeDepth := 3) only [↓X, ↓Y, ↓Q, S1, ↓reduceIte, Nat.reduceEqDiff, Nat.reduceAdd, Int.reduceLT, Int.reduceLE, Int.reduceNeg, Int.reduceBEq, Int.reduceBNe, Int.reduceEq, Nat.reduceLeDiff, Nat.reduceMul, Nat.reduceLT, *]
    | simp (singlePass := true) (maxDischargeDepth := 99) only [*, S2, Nat.reduceLT])
    refine call_k (slicesCloneI (B := B) FR (hC.out _ FR) hll14) ?_
    rintro o7 w7 n7 s7 ho7
    have hs7 := ho7.sl1 (f := intV)
    have one7' := ho7.one
    have hL7 := fun w' (h : Bl w7.heap.size w7 w') => hs7.bl h
    replace hL7 : Hid _ := hL7
    have b7 : Bl w7.heap.size w7 w7 := Bl.refl (Nat.le_refl _)
    clear ho7 hs7
    (repeat' first
    | ((with_reducible refine at_row ?_); refine row1_a fun _ _ _ _ _ _ _ => ?_)
    | with_reducible first | (first | apply alloc_k | apply row_k); intro _ _ _ _ _ _ | (first | apply fork | apply forkp) <;> intro _ | refine forke (fun _ => ?_) fun _ _ => ?_ | refine tail_k fun _ _ _ => ?_ | refine ext_k fun _ _ _ => ?_ | refine need_a ?_ | refine st_agg KR rfl ON fun _ _ _ _ => ?_ | refine wpd_q_a ?_
    | simp (maxDischargeDepth := 3) only [↓X, ↓Y, ↓Q, S1, ↓reduceIte, Nat.reduceEqDiff, Nat.reduceAdd, Int.reduceLT, Int.reduceLE, Int.reduceNeg, Int.reduceBEq, Int.reduceBNe, Int.reduceEq, Nat.reduceLeDiff, Nat.reduceMul, Nat.reduceLT, *]
    | simp (singlePass := true) (maxDischargeDepth := 99) only [*, S2, Nat.reduceLT])
    have h97 : w9.heap.size ≤ w7.heap.size := FR
    refine ret_k (orderRank (B := w7.heap.size) (hT'.out _ FR) FR ((hV1.out w7 FR).more10 h97) (hL7.out _ FR)) fun w8 n8 s8 => ?_
    (repeat' first
    | ((with_reducible refine at_row ?_); refine row1_a fun _ _ _ _ _ _ _ => ?_)
    | with_reducible first | (first | apply alloc_k | apply row_k); intro _ _ _ _ _ _ | (first | apply fork | apply forkp) <;> intro _ | refine forke (fun _ => ?_) fun _ _ => ?_ | refine tail_k fun _ _ _ => ?_ | refine ext_k fun _ _ _ => ?_ | refine need_a ?_ | refine st_agg KR rfl ON fun _ _ _ _ => ?_ | refine wpd_q_a ?_
    | simp (maxDischargeDepth := 3) only [↓X, ↓Y, ↓Q, S1, ↓reduceIte, Nat.reduceEqDiff, Nat.reduceAdd, Int.reduceLT, Int.reduceLE, Int.reduceNeg, Int.reduceBEq, Int.reduceBNe, Int.reduceEq, Nat.reduceLeDiff, Nat.reduceMul, Nat.reduceLT, *]
    | simp (singlePass := true) (maxDischargeDepth := 99) only [*, S2, Nat.reduceLT])
    have hB8 : B ≤ w9.heap.size := FR
    refine ret_k (ref10Rank (B := w9.heap.size) FR (hV1.out _ FR) ((hC.out w8 FR).more hB8)) fun w10 n10 s10 => ?_
    generalize rankE (ofS A).1 (ofS A).2.1 (line.take 14) = rk9 at *
    (repeat' first
    | ((with_reducible refine at_row ?_); refine row1_a fun _ _ _ _ _ _ _ => ?_)
    | with_reducible first | (first | apply alloc_k | apply row_k); intro _ _ _ _ _ _ | (first | apply fork | apply forkp) <;> intro _ | refine forke (fun _ => ?_) fun _ _ => ?_ | refine tail_k fun _ _ _ => ?_ | refine ext_k fun _ _ _ => ?_ | refine need_a ?_ | refine st_agg KR rfl ON fun _ _ _ _ => ?_ | refine wpd_q_a ?_
    | simp (maxDischargeDepth := 3) only [↓X, ↓Y, ↓Q, S1, ↓reduceIte, Nat.reduceEqDiff, Nat.reduceAdd, Int.reduceLT, Int.reduceLE, Int.reduceNeg, Int.reduceBEq, Int.reduceBNe, Int.reduceEq, Nat.reduceLeDiff, Nat.reduceMul, Nat.reduceLT, *]
    | simp (singlePass := true) (maxDischargeDepth := 99) only [*, S2, Nat.reduceLT])
    refine ret_k (law10works (hT'.out _ FR)) fun w11 n11 s11 => ?_
    (repeat' first
    | ((with_reducible refine at_row ?_); refine row1_a fun _ _ _ _ _ _ _ => ?_)
    | with_reducible first | (first | apply alloc_k | apply row_k); intro _ _ _ _ _ _ | (first | apply fork | apply forkp) <;> intro _ | refine forke (fun _ => ?_) fun _ _ => ?_ | refine tail_k fun _ _ _ => ?_ | refine ext_k fun _ _ _ => ?_ | refine need_a ?_ | refine st_agg KR rfl ON fun _ _ _ _ => ?_ | refine wpd_q_a ?_
    | simp (maxDischargeDepth := 3) only [↓X, ↓Y, ↓Q, S1, ↓reduceIte, Nat.reduceEqDiff, Nat.reduceAdd, Int.reduceLT, Int.reduceLE, Int.reduceNeg, Int.reduceBEq, Int.reduceBNe, Int.reduceEq, Nat.reduceLeDiff, Nat.reduceMul, Nat.reduceLT, *]
    | simp (singlePass := true) (maxDischargeDepth := 99) only [*, S2, Nat.reduceLT])
    all_goals done
end
end Go.Proofs.YteeaccnklkcchaaDoor
