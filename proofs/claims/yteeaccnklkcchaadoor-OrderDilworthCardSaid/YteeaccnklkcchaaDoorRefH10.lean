
/- The document's answer, layer 10: Height, Width, Divides. -/
import Derived.Test.YteeaccnklkcchaaDoorRefS10
import Derived.Test.YteeaccnklkcchaaDoorPureM10
import Derived.Test.YteeaccnklkcchaaDoorLines10
import Derived.Test.YteeaccnklkcchaaDoorChains10
namespace Go.Proofs.YteeaccnklkcchaaDoor
set_option linter.unusedSimpArgs false
set_option linter.unusedVariables false
open Go Go.RowKit
set_option maxRecDepth 100000
set_option linter.unusedSectionVars false
set_option maxHeartbeats 2000000
section
variable {w : World} {B : Nat} {v : Value} {vs : List Value} {after : List (List Int)}
theorem max_nat (c x : Nat) : (if c < x then ((x : Nat) : Int) else (c : Int)) = ((max c x : Nat) : Int) := by
  split <;> omega
theorem ref10Height (hB : B ≤ w.heap.size) (hv : LLR w B v vs after) : Ret Tryd.prog 39 #[v] w (.tuple #[natV (heightE (ofS after).1 after.length (ofS after).2.1).1, intV (heightE (ofS after).1 after.length (ofS after).2.1).2]) := by
  have hn : Now w := trivial
  have hx : Ext w w := Ext.refl w
  have hl := hv.len_
  have hl3 : lenN v = after.length := hl.2.2
  have hl1 := hl.1
  have hl2 := hl.2.1
  have hg := fun w' (h : Bl B w w') (k : Nat) (hk : k < after.length) => (hv.blz h).get hk
  have hV := fun w' (h : Bl B w w') => hv.blz h
  have hva := fun w' (h : Bl B w w') (h3 : B ≤ w'.heap.size) => ref10Valid h3 (hV w' h)
  replace hg : Hid _ := hg
  have hbw : Bl B w w := Bl.refl hB
  have hmax : after.length ≤ 9223372036854775807 := hv.max_
  clear hl hV
  by_cases h0 : (ofS after).1 = 0
  rotate_left
  · rw [heightE, if_neg h0]
    generalize (ofS after).1 = e at *
    have e1 : (e == 0) = false := by simpa using h0
    have e2 : (e != 0) = true := by simpa using h0
    (refine callsV_of Tryd.func39 rfl KR KR ?_; rw [Tryd.results39])
    (repeat' first
    | ((with_reducible refine at_row ?_); refine row1_a fun _ _ _ _ _ _ _ => ?_)
    | with_reducible first | (first | apply alloc_k | apply row_k); intro _ _ _ _ _ _ | (first | apply fork | apply forkp) <;> intro _ | refine forke (fun _ => ?_) fun _ _ => ?_ | refine tail_k fun _ _ _ => ?_ | refine ext_k fun _ _ _ => ?_ | refine need_a ?_ | refine st_agg KR rfl ON fun _ _ _ _ => ?_ | refine wpd_q_a ?_
    | ((with_reducible refine at_f 31 ?_); refine ret_k (hva _ FR FR) fun _ _ _ => ?_)
    | simp (maxDischargeDepth := 3) only [↓X, ↓Y, ↓Q, S1, ↓reduceIte, Nat.reduceEqDiff, Nat.reduceAdd, Int.reduceLT, Int.reduceLE, Int.reduceNeg, Int.reduceBEq, Int.reduceBNe, Int.reduceEq, Nat.reduceLeDiff, Nat.reduceMul, Nat.reduceLT, *]
    | simp (singlePass := true) (maxDischargeDepth := 99) only [*, S2, Nat.reduceLT])
  rw [h0] at hva
  rw [heightE, if_pos h0]
  obtain ⟨h12, hran, _, _⟩ := ref_ok h0
  have hne := (ord_ok h0).2.2.2.2.2.2.1
  have hstep : ∀ (t i : Nat) (hs : List Nat), HI after t i hs → i < after.length → HI after t (i + 1) (hs.set i (hiV hs ((natA after).getD i []))) := fun _ _ _ h hi => h.step h0 hi
  have hsm : ∀ (t i : Nat) (hs : List Nat), HI after t i hs → ∀ j, hs.getD j 0 ≤ 12 := fun _ _ _ h => h.small h0
  have hbest : ∀ (hs : List Nat), HI after after.length 0 hs → hs.foldl (fun m k => max m k) 0 = heightN (ofS after).2.1 after.length 4096 0 := fun _ h => h.best h0
  have hHI0 := HI.start after
  generalize heightN (ofS after).2.1 after.length 4096 0 = H at *
  replace hran : Hid _ := hran
  replace hne : Hid _ := hne
  replace hstep : Hid _ := hstep
  replace hsm : Hid _ := hsm
  replace hbest : Hid _ := hbest
  replace hHI0 : Hid _ := hHI0
  clear h0
  (refine callsV_of Tryd.func39 rfl KR KR ?_; rw [Tryd.results39])
  (repeat' first
    | ((with_reducible refine at_row ?_); refine row1_a fun _ _ _ _ _ _ _ => ?_)
    | with_reducible first | (first | apply alloc_k | apply row_k); intro _ _ _ _ _ _ | (first | apply fork | apply forkp) <;> intro _ | refine forke (fun _ => ?_) fun _ _ => ?_ | refine tail_k fun _ _ _ => ?_ | refine ext_k fun _ _ _ => ?_ | refine need_a ?_ | refine st_agg KR rfl ON fun _ _ _ _ => ?_ | refine wpd_q_a ?_
    | ((with_reducible refine at_f 31 ?_); refine ret_k (hva _ FR FR) fun _ _ _ => ?_)
    | simp (maxDischargeDepth := 3) only [↓X, ↓Y, ↓Q, S1, ↓reduceIte, Nat.reduceEqDiff, Nat.reduceAdd, Int.reduceLT, Int.reduceLE, Int.reduceNeg, Int.reduceBEq, Int.reduceBNe, Int.reduceEq, Nat.reduceLeDiff, Nat.reduceMul, Nat.reduceLT, *]
    | simp (singlePass := true) (maxDischargeDepth := 99) only [*, S2, Nat.reduceLT])
  refine mk_one_k (n := after.length) (z := .int .i64 0) rfl (by decide) (by omega) fun b w1 n1 k1 s1 q1 => ?_
  have hrep : List.replicate after.length (Value.int .i64 0) = (List.replicate after.length 0).map natV := by
    rw [List.map_replicate]; rfl
  rw [hrep] at k1
  have hb1 : Blk w1 b 3 ((List.replicate after.length 0).map natV) := k1.2.1 _ k1.2.2.1
  have hbl1 : b < w1.heap.size := hb1.lt
  clear hrep k1
  (repeat' first
    | ((with_reducible refine at_row ?_); refine row1_a fun _ _ _ _ _ _ _ => ?_)
    | with_reducible first | (first | apply alloc_k | apply row_k); intro _ _ _ _ _ _ | (first | apply fork | apply forkp) <;> intro _ | refine forke (fun _ => ?_) fun _ _ => ?_ | refine tail_k fun _ _ _ => ?_ | refine ext_k fun _ _ _ => ?_ | refine need_a ?_ | refine st_agg KR rfl ON fun _ _ _ _ => ?_ | refine wpd_q_a ?_
    | simp (maxDischargeDepth := 3) only [↓X, ↓Y, ↓Q, S1, ↓reduceIte, Nat.reduceEqDiff, Nat.reduceAdd, Int.reduceLT, Int.reduceLE, Int.reduceNeg, Int.reduceBEq, Int.reduceBNe, Int.reduceEq, Nat.reduceLeDiff, Nat.reduceMul, Nat.reduceLT, *]
    | simp (singlePass := true) (maxDischargeDepth := 99) only [*, S2, Nat.reduceLT])
  refine loop_b b after.length (fun g0 t g w' => g 22 = .int .i64 t ∧ (g 0 = g0 0 ∧ g 5 = g0 5 ∧ g 21 = g0 21) ∧ ∃ hs, Hid (HI after t 0 hs) ∧ Blk w' b 3 (hs.map natV)) KR hmax FR ?_ ?_ ?_
  · (repeat' first
    | ((with_reducible refine at_row ?_); refine row1_a fun _ _ _ _ _ _ _ => ?_)
    | with_reducible first | (first | apply alloc_k | apply row_k); intro _ _ _ _ _ _ | (first | apply fork | apply forkp) <;> intro _ | refine forke (fun _ => ?_) fun _ _ => ?_ | refine tail_k fun _ _ _ => ?_ | refine ext_k fun _ _ _ => ?_ | refine need_a ?_ | refine st_agg KR rfl ON fun _ _ _ _ => ?_ | refine wpd_q_a ?_
    | simp (maxDischargeDepth := 3) only [↓X, ↓Y, ↓Q, S1, ↓reduceIte, Nat.reduceEqDiff, Nat.reduceAdd, Int.reduceLT, Int.reduceLE, Int.reduceNeg, Int.reduceBEq, Int.reduceBNe, Int.reduceEq, Nat.reduceLeDiff, Nat.reduceMul, Nat.reduceLT, *]
    | simp (singlePass := true) (maxDischargeDepth := 99) only [*, S2, Nat.reduceLT])
    exact ⟨_, hHI0.out, hb1⟩
  · rintro t m g wk hk hlt nk sk ck hw hww ⟨hi, hf, hs, hp, hbk⟩
    simp (maxDischargeDepth := 3) only [U, ↓reduceIte, Nat.reduceEqDiff, *] at hf
    have hbl : b < wk.heap.size := hbk.lt
    (repeat' first
    | ((with_reducible refine at_row ?_); refine row1_a fun _ _ _ _ _ _ _ => ?_)
    | with_reducible first | (first | apply alloc_k | apply row_k); intro _ _ _ _ _ _ | (first | apply fork | apply forkp) <;> intro _ | refine forke (fun _ => ?_) fun _ _ => ?_ | refine tail_k fun _ _ _ => ?_ | refine ext_k fun _ _ _ => ?_ | refine need_a ?_ | refine st_agg KR rfl ON fun _ _ _ _ => ?_ | refine wpd_q_a ?_
    | simp (maxDischargeDepth := 3) only [↓X, ↓Y, ↓Q, S1, ↓reduceIte, Nat.reduceEqDiff, Nat.reduceAdd, Int.reduceLT, Int.reduceLE, Int.reduceNeg, Int.reduceBEq, Int.reduceBNe, Int.reduceEq, Nat.reduceLeDiff, Nat.reduceMul, Nat.reduceLT, *]
    | simp (singlePass := true) (maxDischargeDepth := 99) only [*, S2, Nat.reduceLT])
    refine loop_b b after.length (fun g0 i g w' => g 26 = .int .i64 i ∧ (g 0 = g0 0 ∧ g 5 = g0 5 ∧ g 21 = g0 21 ∧ g 22 = g0 22 ∧ g 25 = g0 25) ∧ ∃ hs, Hid (HI after t i hs) ∧ Blk w' b 3 (hs.map natV)) KR hmax FR ?_ ?_ ?_
    · (repeat' first
    | ((with_reducible refine at_row ?_); refine row1_a fun _ _ _ _ _ _ _ => ?_)
    | with_reducible first | (first | apply alloc_k | apply row_k); intro _ _ _ _ _ _ | (first | apply fork | apply forkp) <;> intro _ | refine forke (fun _ => ?_) fun _ _ => ?_ | refine tail_k fun _ _ _ => ?_ | refine ext_k fun _ _ _ => ?_ | refine need_a ?_ | refine st_agg KR rfl ON fun _ _ _ _ => ?_ | refine wpd_q_a ?_
    | simp (maxDischargeDepth := 3) only [↓X, ↓Y, ↓Q, S1, ↓reduceIte, Nat.reduceEqDiff, Nat.reduceAdd, Int.reduceLT, Int.reduceLE, Int.reduceNeg, Int.reduceBEq, Int.reduceBNe, Int.reduceEq, Nat.reduceLeDiff, Nat.reduceMul, Nat.reduceLT, *]
    | simp (singlePass := true) (maxDischargeDepth := 99) only [*, S2, Nat.reduceLT])
      exact ⟨_, hp.out, hbk⟩
    · clear hp hbk hs
      rintro i m1 g1 w2 hk2 hlt2 n2 s2 c2 hw2 hww2 ⟨hi2, hf2, hs, hp, hbk2⟩
      simp (maxDischargeDepth := 3) only [U, ↓reduceIte, Nat.reduceEqDiff, *] at hf2
      have hsl := hp.out.l
      have hsm2 := hsm.out _ _ _ hp.out
      have hnx := hstep.out _ _ _ hp.out hlt2
      replace hnx : Hid _ := hnx
      have hbl2 : b < w2.heap.size := hbk2.lt
      have kb2 := hbk2.bk
      have hlm : (hs.map natV).length = after.length := by rw [List.length_map]; exact hsl
      (repeat' first
    | ((with_reducible refine at_row ?_); refine row1_a fun _ _ _ _ _ _ _ => ?_)
    | with_reducible first | (first | apply alloc_k | apply row_k); intro _ _ _ _ _ _ | (first | apply fork | apply forkp) <;> intro _ | refine forke (fun _ => ?_) fun _ _ => ?_ | refine tail_k fun _ _ _ => ?_ | refine ext_k fun _ _ _ => ?_ | refine need_a ?_ | refine st_agg KR rfl ON fun _ _ _ _ => ?_ | refine wpd_q_a ?_
    | simp (maxDischargeDepth := 3) only [↓X, ↓Y, ↓Q, S1, ↓reduceIte, Nat.reduceEqDiff, Nat.reduceAdd, Int.reduceLT, Int.reduceLE, Int.reduceNeg, Int.reduceBEq, Int.reduceBNe, Int.reduceEq, Nat.reduceLeDiff, Nat.reduceMul, Nat.reduceLT, *]
    | simp (singlePass := true) (maxDischargeDepth := 99) only [*, S2, Nat.reduceLT])
      refine st_one KR (by rw [hlm]; exact hlt2) rfl fun w8 n8 k8 s8 => ?_
      have hb8 : Blk w8 b 3 ((hs.set i (hiV hs (((natA after).getD i []).take 0))).map natV) := by
        have := k8.2.1 _ k8.2.2.1
        rwa [show (Value.int .i64 1) = natV 1 from rfl, ← List.map_set] at this
      have hbl8 : b < w8.heap.size := hb8.lt
      obtain ⟨z, hz, hsz⟩ := hg.out w8 FR i hlt2
      have hz' := hsz.k FR
      have hzm : after[i].length ≤ 9223372036854775807 := by simpa using hsz.maxLen
      replace hsm2 : Hid _ := hsm2
      clear k8 kb2 hbk2 hp
      (repeat' first
    | ((with_reducible refine at_row ?_); refine row1_a fun _ _ _ _ _ _ _ => ?_)
    | with_reducible first | (first | apply alloc_k | apply row_k); intro _ _ _ _ _ _ | (first | apply fork | apply forkp) <;> intro _ | refine forke (fun _ => ?_) fun _ _ => ?_ | refine tail_k fun _ _ _ => ?_ | refine ext_k fun _ _ _ => ?_ | refine need_a ?_ | refine st_agg KR rfl ON fun _ _ _ _ => ?_ | refine wpd_q_a ?_
    | simp (maxDischargeDepth := 3) only [↓X, ↓Y, ↓Q, S1, ↓reduceIte, Nat.reduceEqDiff, Nat.reduceAdd, Int.reduceLT, Int.reduceLE, Int.reduceNeg, Int.reduceBEq, Int.reduceBNe, Int.reduceEq, Nat.reduceLeDiff, Nat.reduceMul, Nat.reduceLT, *]
    | simp (singlePass := true) (maxDischargeDepth := 99) only [*, S2, Nat.reduceLT])
      refine loop_b b after[i].length (fun g0 u g w' => g 37 = .int .i64 u ∧ (g 0 = g0 0 ∧ g 5 = g0 5 ∧ g 6 = g0 6 ∧ g 21 = g0 21 ∧ g 22 = g0 22 ∧ g 25 = g0 25 ∧ g 26 = g0 26 ∧ g 35 = g0 35 ∧ g 36 = g0 36) ∧ Blk w' b 3 ((hs.set i (hiV hs (((natA after).getD i []).take u))).map natV)) KR hzm FR ?_ ?_ ?_
      · (repeat' first
    | ((with_reducible refine at_row ?_); refine row1_a fun _ _ _ _ _ _ _ => ?_)
    | with_reducible first | (first | apply alloc_k | apply row_k); intro _ _ _ _ _ _ | (first | apply fork | apply forkp) <;> intro _ | refine forke (fun _ => ?_) fun _ _ => ?_ | refine tail_k fun _ _ _ => ?_ | refine ext_k fun _ _ _ => ?_ | refine need_a ?_ | refine st_agg KR rfl ON fun _ _ _ _ => ?_ | refine wpd_q_a ?_
    | simp (maxDischargeDepth := 3) only [↓X, ↓Y, ↓Q, S1, ↓reduceIte, Nat.reduceEqDiff, Nat.reduceAdd, Int.reduceLT, Int.reduceLE, Int.reduceNeg, Int.reduceBEq, Int.reduceBNe, Int.reduceEq, Nat.reduceLeDiff, Nat.reduceMul, Nat.reduceLT, *]
    | simp (singlePass := true) (maxDischargeDepth := 99) only [*, S2, Nat.reduceLT])
        all_goals exact hb8
      · rintro u m3 g3 w3 hk3 hlt3 n3 s3 c3 hbl3 hw3 ⟨hi3, hf3, hbk3⟩
        simp (maxDischargeDepth := 3) only [U, ↓reduceIte, Nat.reduceEqDiff, *] at hf3
        have hr := hran.out i hlt2 _ (List.getElem_mem hlt3)
        obtain ⟨y, hy⟩ : ∃ y : Nat, after[i][u] = y := ⟨after[i][u].toNat, by omega⟩
        have hyn : y < after.length := by omega
        have hnat : ((natA after).getD i [])[u]? = some y := by
          rw [natA_get hlt2, List.getElem?_map, List.getElem?_eq_getElem hlt3, Option.map_some, hy, Int.toNat_natCast]
        have htl : u < ((natA after).getD i []).length := (List.getElem?_eq_some_iff.1 hnat).1
        have hel : ((natA after).getD i [])[u] = y := (List.getElem?_eq_some_iff.1 hnat).2
        have hyi : y ≠ i := (hne.out i y (hel ▸ List.getElem_mem htl)).2
        have htk : hiV hs (((natA after).getD i []).take (u + 1)) = max (hiV hs (((natA after).getD i []).take u)) (hs.getD y 0 + 1) := by
          rw [appLL_take htl, hel, hiV, List.foldl_append]; rfl
        have hle13 : hiV hs (((natA after).getD i []).take u) ≤ 13 := foldmax_le (by omega) fun k _ => by have := hsm2.out k; omega
        have hyle := hsm2.out y
        replace htk : Hid _ := htk
        generalize hiV hs (((natA after).getD i []).take u) = c at *
        have g1 : ((hs.set i c).map natV)[i]? = some (.int .i64 (c : Nat)) := by
          rw [rowN_get (by rw [List.length_set]; omega), getD_set, if_pos ⟨rfl, by omega⟩]
        have g2 : ((hs.set i c).map natV)[y]? = some (.int .i64 (hs.getD y 0 : Nat)) := by
          rw [rowN_get (by rw [List.length_set]; omega), getD_set, if_neg (by omega)]
        have e2 : IntKind.i64.wrap (((hs.getD y 0 : Nat) : Int) + 1) = ((hs.getD y 0 + 1 : Nat) : Int) := by rw [wrap_i64_id] <;> omega
        have e3 := max_nat c (hs.getD y 0 + 1)
        have kb := hbk3.bk
        have hol' : ((hs.set i c).map natV).length = after.length := by rw [List.length_map, List.length_set]; exact hsl
        clear hbk3 hel hnat htl hyle hle13 hr hyi
        (repeat' first
    | ((with_reducible refine wpd_at 14 ?_); refine wpd_hold ?_)
    | ((with_reducible refine at_row ?_); refine row1_a fun _ _ _ _ _ _ _ => ?_)
    | with_reducible first | (first | apply alloc_k | apply row_k); intro _ _ _ _ _ _ | (first | apply fork | apply forkp) <;> intro _ | refine forke (fun _ => ?_) fun _ _ => ?_ | refine tail_k fun _ _ _ => ?_ | refine ext_k fun _ _ _ => ?_ | refine need_a ?_ | refine st_agg KR rfl ON fun _ _ _ _ => ?_ | refine wpd_q_a ?_
    | simp (maxDischargeDepth := 3) only [↓X, ↓Y, ↓Q, S1, ↓reduceIte, Nat.reduceEqDiff, Nat.reduceAdd, Int.reduceLT, Int.reduceLE, Int.reduceNeg, Int.reduceBEq, Int.reduceBNe, Int.reduceEq, Nat.reduceLeDiff, Nat.reduceMul, Nat.reduceLT, *, hy]
    | simp (singlePass := true) (maxDischargeDepth := 99) only [*, S2, Nat.reduceLT, hy])
        unfold wpdH
        refine wpd_rel 13 (fun iI v w9 => match iI with
          | 0 => v = .slice (some ⟨b, 0, none⟩) after.length after.length
          | 1 => v = .int .i64 i
          | 2 => v = .slice (some ⟨b, 0, none⟩) after.length after.length
          | 3 => v = .int .i64 i
          | 4 => v = .pointer (some ⟨b, i, none⟩)
          | 5 => v = .int .i64 (c : Nat)
          | 6 => v = .slice (some ⟨b, 0, none⟩) after.length after.length
          | 7 => v = .int .i64 (y : Nat)
          | 8 => v = .pointer (some ⟨b, y, none⟩)
          | 9 => v = .int .i64 (hs.getD y 0 : Nat)
          | 10 => v = .int .i64 (hs.getD y 0 + 1 : Nat)
          | 11 => v = .int .i64 (max c (hs.getD y 0 + 1) : Nat)
          | 12 => v = .pointer (some ⟨b, i, none⟩)
          | _ => False) KR KR KR ?_ ?_ ?_
        · intro iI v w1 w2 hR hx9
          match iI, hR with
          | 0, h => exact h
          | 1, h => exact h
          | 2, h => exact h
          | 3, h => exact h
          | 4, h => exact h
          | 5, h => exact h
          | 6, h => exact h
          | 7, h => exact h
          | 8, h => exact h
          | 9, h => exact h
          | 10, h => exact h
          | 11, h => exact h
          | 12, h => exact h
        · intro iI oO hi ho gF w9 hx9 hdep hag
          have s9 := hx9.st
          have n9 : Now w9 := trivial
          have r9 := Ext.refl w9
          have z9 := hx9.size
          rcases iI with _|_|_|_|_|_|_|_|_|_|_|_|_|iI
          have e := Option.some.inj ho
          subst e
          have a5 := hag.at 5 KR
          simp only [S5, ↓reduceIte, Nat.reduceEqDiff, initF, *] at a5
          clear hag hdep ho
          refine relStep_off rfl ?_
          rotate_left
          have e := Option.some.inj ho
          subst e
          have a6 := hag.at 6 KR
          simp only [S5, ↓reduceIte, Nat.reduceEqDiff, initF, *] at a6
          clear hag hdep ho
          refine relStep_off rfl ?_
          rotate_left
          have e := Option.some.inj ho
          subst e
          have a5 := hag.at 5 KR
          simp only [S5, ↓reduceIte, Nat.reduceEqDiff, initF, *] at a5
          clear hag hdep ho
          refine relStep_off rfl ?_
          rotate_left
          have e := Option.some.inj ho
          subst e
          have a6 := hag.at 6 KR
          simp only [S5, ↓reduceIte, Nat.reduceEqDiff, initF, *] at a6
          clear hag hdep ho
          refine relStep_off rfl ?_
          rotate_left
          have e := Option.some.inj ho
          subst e
          have d2 : (gF 43) = .slice (some ⟨b, 0, none⟩) after.length after.length := hdep ⟨2, .data⟩ (by simp) rfl _ _ rfl rfl
          have d3 : (gF 44) = .int .i64 i := hdep ⟨3, .data⟩ (by simp) rfl _ _ rfl rfl
          clear hag hdep ho
          refine relStep_off rfl ?_
          rotate_left
          have e := Option.some.inj ho
          subst e
          have d4 : (gF 45) = .pointer (some ⟨b, i, none⟩) := hdep ⟨4, .data⟩ (by simp) rfl _ _ rfl rfl
          clear hag hdep ho
          refine relStep_off rfl ?_
          rotate_left
          have e := Option.some.inj ho
          subst e
          have a5 := hag.at 5 KR
          simp only [S5, ↓reduceIte, Nat.reduceEqDiff, initF, *] at a5
          clear hag hdep ho
          refine relStep_off rfl ?_
          rotate_left
          have e := Option.some.inj ho
          subst e
          have a8 := hag.at 8 KR
          simp only [S5, ↓reduceIte, Nat.reduceEqDiff, initF, *] at a8
          clear hag hdep ho
          refine relStep_off rfl ?_
          rotate_left
          have e := Option.some.inj ho
          subst e
          have d6 : (gF 47) = .slice (some ⟨b, 0, none⟩) after.length after.length := hdep ⟨6, .data⟩ (by simp) rfl _ _ rfl rfl
          have d7 : (gF 48) = .int .i64 (y : Nat) := hdep ⟨7, .data⟩ (by simp) rfl _ _ rfl rfl
          clear hag hdep ho
          refine relStep_off rfl ?_
          rotate_left
          have e := Option.some.inj ho
          subst e
          have d8 : (gF 49) = .pointer (some ⟨b, y, none⟩) := hdep ⟨8, .data⟩ (by simp) rfl _ _ rfl rfl
          clear hag hdep ho
          refine relStep_off rfl ?_
          rotate_left
          have e := Option.some.inj ho
          subst e
          have d9 : (gF 50) = .int .i64 (hs.getD y 0 : Nat) := hdep ⟨9, .data⟩ (by simp) rfl _ _ rfl rfl
          clear hag hdep ho
          refine relStep_off rfl ?_
          rotate_left
          have e := Option.some.inj ho
          subst e
          have d5 : (gF 46) = .int .i64 (c : Nat) := hdep ⟨5, .data⟩ (by simp) rfl _ _ rfl rfl
          have d10 : (gF 51) = .int .i64 (hs.getD y 0 + 1 : Nat) := hdep ⟨10, .data⟩ (by simp) rfl _ _ rfl rfl
          clear hag hdep ho
          refine relStep_off rfl ?_
          rotate_left
          have e := Option.some.inj ho
          subst e
          have d0 : (gF 41) = .slice (some ⟨b, 0, none⟩) after.length after.length := hdep ⟨0, .data⟩ (by simp) rfl _ _ rfl rfl
          have d1 : (gF 42) = .int .i64 i := hdep ⟨1, .data⟩ (by simp) rfl _ _ rfl rfl
          clear hag hdep ho
          refine relStep_off rfl ?_
          rotate_left
          · omega
          all_goals (repeat' first
    | ((with_reducible refine at_row ?_); refine row1_a fun _ _ _ _ _ _ _ => ?_)
    | with_reducible first | (first | apply alloc_k | apply row_k); intro _ _ _ _ _ _ | (first | apply fork | apply forkp) <;> intro _ | refine forke (fun _ => ?_) fun _ _ => ?_ | refine tail_k fun _ _ _ => ?_ | refine ext_k fun _ _ _ => ?_ | refine need_a ?_ | refine st_agg KR rfl ON fun _ _ _ _ => ?_ | refine wpd_q_a ?_
    | simp (maxDischargeDepth := 3) only [↓X, ↓Y, ↓Q, S1, ↓reduceIte, Nat.reduceEqDiff, Nat.reduceAdd, Int.reduceLT, Int.reduceLE, Int.reduceNeg, Int.reduceBEq, Int.reduceBNe, Int.reduceEq, Nat.reduceLeDiff, Nat.reduceMul, Nat.reduceLT, *, hy]
    | simp (singlePass := true) (maxDischargeDepth := 99) only [*, S2, Nat.reduceLT, hy])
        · intro g9 w9 hx9 hR hag
          have s9 := hx9.st
          have n9 : Now w9 := trivial
          have r9 := Ext.refl w9
          have z9 := hx9.size
          have d11 : (g9 52) = .int .i64 (max c (hs.getD y 0 + 1) : Nat) := hR 11 _ _ (by decide) rfl rfl
          have d12 : (g9 53) = .pointer (some ⟨b, i, none⟩) := hR 12 _ _ (by decide) rfl rfl
          have a0 := hag.at 0 KR
          have a5 := hag.at 5 KR
          have a6 := hag.at 6 KR
          have a21 := hag.at 21 KR
          have a22 := hag.at 22 KR
          have a25 := hag.at 25 KR
          have a26 := hag.at 26 KR
          have a35 := hag.at 35 KR
          have a36 := hag.at 36 KR
          have a37 := hag.at 37 KR
          simp only [S5, ↓reduceIte, Nat.reduceEqDiff, initF, *] at a0 a5 a6 a21 a22 a25 a26 a35 a36 a37
          clear hag hR
          simp only [List.drop_succ_cons, List.drop_zero]
          (repeat' first
    | ((with_reducible refine at_row ?_); refine row1_a fun _ _ _ _ _ _ _ => ?_)
    | with_reducible first | (first | apply alloc_k | apply row_k); intro _ _ _ _ _ _ | (first | apply fork | apply forkp) <;> intro _ | refine forke (fun _ => ?_) fun _ _ => ?_ | refine tail_k fun _ _ _ => ?_ | refine ext_k fun _ _ _ => ?_ | refine need_a ?_ | refine st_agg KR rfl ON fun _ _ _ _ => ?_ | refine wpd_q_a ?_
    | simp (maxDischargeDepth := 3) only [↓X, ↓Y, ↓Q, S1, ↓reduceIte, Nat.reduceEqDiff, Nat.reduceAdd, Int.reduceLT, Int.reduceLE, Int.reduceNeg, Int.reduceBEq, Int.reduceBNe, Int.reduceEq, Nat.reduceLeDiff, Nat.reduceMul, Nat.reduceLT, *]
    | simp (singlePass := true) (maxDischargeDepth := 99) only [*, S2, Nat.reduceLT])
          refine st_one KR (by rw [hol']; exact hlt2) rfl fun w9 n9 k9 s9 => ?_
          rw [rowN_set, List.set_set] at k9
          have hb9 := k9.2.1 _ k9.2.2.1
          rw [← htk.out] at hb9
          clear k9 kb g1 g2
          (repeat' first
    | ((with_reducible refine at_row ?_); refine row1_a fun _ _ _ _ _ _ _ => ?_)
    | with_reducible first | (first | apply alloc_k | apply row_k); intro _ _ _ _ _ _ | (first | apply fork | apply forkp) <;> intro _ | refine forke (fun _ => ?_) fun _ _ => ?_ | refine tail_k fun _ _ _ => ?_ | refine ext_k fun _ _ _ => ?_ | refine need_a ?_ | refine st_agg KR rfl ON fun _ _ _ _ => ?_ | refine wpd_q_a ?_
    | simp (maxDischargeDepth := 3) only [↓X, ↓Y, ↓Q, S1, ↓reduceIte, Nat.reduceEqDiff, Nat.reduceAdd, Int.reduceLT, Int.reduceLE, Int.reduceNeg, Int.reduceBEq, Int.reduceBNe, Int.reduceEq, Nat.reduceLeDiff, Nat.reduceMul, Nat.reduceLT, *]
    | simp (singlePass := true) (maxDischargeDepth := 99) only [*, S2, Nat.reduceLT])
          refine next_b hk3 hlt3 ?_ FR
          (repeat' first
    | ((with_reducible refine at_row ?_); refine row1_a fun _ _ _ _ _ _ _ => ?_)
    | with_reducible first | (first | apply alloc_k | apply row_k); intro _ _ _ _ _ _ | (first | apply fork | apply forkp) <;> intro _ | refine forke (fun _ => ?_) fun _ _ => ?_ | refine tail_k fun _ _ _ => ?_ | refine ext_k fun _ _ _ => ?_ | refine need_a ?_ | refine st_agg KR rfl ON fun _ _ _ _ => ?_ | refine wpd_q_a ?_
    | simp (maxDischargeDepth := 3) only [↓X, ↓Y, ↓Q, S1, ↓reduceIte, Nat.reduceEqDiff, Nat.reduceAdd, Int.reduceLT, Int.reduceLE, Int.reduceNeg, Int.reduceBEq, Int.reduceBNe, Int.reduceEq, Nat.reduceLeDiff, Nat.reduceMul, Nat.reduceLT, *]
    | simp (singlePass := true) (maxDischargeDepth := 99) only [*, S2, Nat.reduceLT])
          all_goals exact hb9
      · rintro g3 w3 n3 s3 c3 hbl3 ⟨hi3, hf3, hbk3⟩
        simp (maxDischargeDepth := 3) only [U, ↓reduceIte, Nat.reduceEqDiff, *] at hf3
        rw [List.take_of_length_le (by rw [natA_get hlt2, List.length_map]; exact Nat.le_refl _)] at hbk3
        (repeat' first
    | ((with_reducible refine at_row ?_); refine row1_a fun _ _ _ _ _ _ _ => ?_)
    | with_reducible first | (first | apply alloc_k | apply row_k); intro _ _ _ _ _ _ | (first | apply fork | apply forkp) <;> intro _ | refine forke (fun _ => ?_) fun _ _ => ?_ | refine tail_k fun _ _ _ => ?_ | refine ext_k fun _ _ _ => ?_ | refine need_a ?_ | refine st_agg KR rfl ON fun _ _ _ _ => ?_ | refine wpd_q_a ?_
    | simp (maxDischargeDepth := 3) only [↓X, ↓Y, ↓Q, S1, ↓reduceIte, Nat.reduceEqDiff, Nat.reduceAdd, Int.reduceLT, Int.reduceLE, Int.reduceNeg, Int.reduceBEq, Int.reduceBNe, Int.reduceEq, Nat.reduceLeDiff, Nat.reduceMul, Nat.reduceLT, *]
    | simp (singlePass := true) (maxDischargeDepth := 99) only [*, S2, Nat.reduceLT])
        refine next_b hk2 hlt2 ?_ FR
        (repeat' first
    | ((with_reducible refine at_row ?_); refine row1_a fun _ _ _ _ _ _ _ => ?_)
    | with_reducible first | (first | apply alloc_k | apply row_k); intro _ _ _ _ _ _ | (first | apply fork | apply forkp) <;> intro _ | refine forke (fun _ => ?_) fun _ _ => ?_ | refine tail_k fun _ _ _ => ?_ | refine ext_k fun _ _ _ => ?_ | refine need_a ?_ | refine st_agg KR rfl ON fun _ _ _ _ => ?_ | refine wpd_q_a ?_
    | simp (maxDischargeDepth := 3) only [↓X, ↓Y, ↓Q, S1, ↓reduceIte, Nat.reduceEqDiff, Nat.reduceAdd, Int.reduceLT, Int.reduceLE, Int.reduceNeg, Int.reduceBEq, Int.reduceBNe, Int.reduceEq, Nat.reduceLeDiff, Nat.reduceMul, Nat.reduceLT, *]
    | simp (singlePass := true) (maxDischargeDepth := 99) only [*, S2, Nat.reduceLT])
        exact ⟨_, hnx.out, hbk3⟩
    · rintro g1 w2 n2 s2 c2 hww2 ⟨hi2, hf2, hs2, hp2, hbk2⟩
      simp (maxDischargeDepth := 3) only [U, ↓reduceIte, Nat.reduceEqDiff, *] at hf2
      have hnx := hp2.out.next
      replace hnx : Hid _ := hnx
      (repeat' first
    | ((with_reducible refine at_row ?_); refine row1_a fun _ _ _ _ _ _ _ => ?_)
    | with_reducible first | (first | apply alloc_k | apply row_k); intro _ _ _ _ _ _ | (first | apply fork | apply forkp) <;> intro _ | refine forke (fun _ => ?_) fun _ _ => ?_ | refine tail_k fun _ _ _ => ?_ | refine ext_k fun _ _ _ => ?_ | refine need_a ?_ | refine st_agg KR rfl ON fun _ _ _ _ => ?_ | refine wpd_q_a ?_
    | simp (maxDischargeDepth := 3) only [↓X, ↓Y, ↓Q, S1, ↓reduceIte, Nat.reduceEqDiff, Nat.reduceAdd, Int.reduceLT, Int.reduceLE, Int.reduceNeg, Int.reduceBEq, Int.reduceBNe, Int.reduceEq, Nat.reduceLeDiff, Nat.reduceMul, Nat.reduceLT, *]
    | simp (singlePass := true) (maxDischargeDepth := 99) only [*, S2, Nat.reduceLT])
      refine next_b hk hlt ?_ FR
      (repeat' first
    | ((with_reducible refine at_row ?_); refine row1_a fun _ _ _ _ _ _ _ => ?_)
    | with_reducible first | (first | apply alloc_k | apply row_k); intro _ _ _ _ _ _ | (first | apply fork | apply forkp) <;> intro _ | refine forke (fun _ => ?_) fun _ _ => ?_ | refine tail_k fun _ _ _ => ?_ | refine ext_k fun _ _ _ => ?_ | refine need_a ?_ | refine st_agg KR rfl ON fun _ _ _ _ => ?_ | refine wpd_q_a ?_
    | simp (maxDischargeDepth := 3) only [↓X, ↓Y, ↓Q, S1, ↓reduceIte, Nat.reduceEqDiff, Nat.reduceAdd, Int.reduceLT, Int.reduceLE, Int.reduceNeg, Int.reduceBEq, Int.reduceBNe, Int.reduceEq, Nat.reduceLeDiff, Nat.reduceMul, Nat.reduceLT, *]
    | simp (singlePass := true) (maxDischargeDepth := 99) only [*, S2, Nat.reduceLT])
      exact ⟨_, hnx.out, hbk2⟩
  · rintro g wk nk sk ck hww ⟨hi, hf, hs, hp, hbk⟩
    simp (maxDischargeDepth := 3) only [U, ↓reduceIte, Nat.reduceEqDiff, *] at hf
    have hsl := hp.out.l
    have hsm2 := hsm.out _ _ _ hp.out
    have hb := hbest.out _ hp.out
    have kb := hbk.bk
    have hlm : (hs.map natV).length = after.length := by rw [List.length_map]; exact hsl
    replace hsm2 : Hid _ := hsm2
    replace hb : Hid _ := hb
    clear hp hbk
    (repeat' first
    | ((with_reducible refine at_row ?_); refine row1_a fun _ _ _ _ _ _ _ => ?_)
    | with_reducible first | (first | apply alloc_k | apply row_k); intro _ _ _ _ _ _ | (first | apply fork | apply forkp) <;> intro _ | refine forke (fun _ => ?_) fun _ _ => ?_ | refine tail_k fun _ _ _ => ?_ | refine ext_k fun _ _ _ => ?_ | refine need_a ?_ | refine st_agg KR rfl ON fun _ _ _ _ => ?_ | refine wpd_q_a ?_
    | simp (maxDischargeDepth := 3) only [↓X, ↓Y, ↓Q, S1, ↓reduceIte, Nat.reduceEqDiff, Nat.reduceAdd, Int.reduceLT, Int.reduceLE, Int.reduceNeg, Int.reduceBEq, Int.reduceBNe, Int.reduceEq, Nat.reduceLeDiff, Nat.reduceMul, Nat.reduceLT, *]
    | simp (singlePass := true) (maxDischargeDepth := 99) only [*, S2, Nat.reduceLT])
    refine loop_k after.length (fun g0 k g w' => g 59 = .int .i64 k ∧ (g 57 = g0 57 ∧ g 58 = g0 58) ∧ ∃ c : Nat, g 9 = .int .i64 (c : Int) ∧ Hid (c = (hs.take k).foldl (fun m k => max m k) 0)) KR hmax ?_ ?_ ?_
    · (repeat' first
    | ((with_reducible refine at_row ?_); refine row1_a fun _ _ _ _ _ _ _ => ?_)
    | with_reducible first | (first | apply alloc_k | apply row_k); intro _ _ _ _ _ _ | (first | apply fork | apply forkp) <;> intro _ | refine forke (fun _ => ?_) fun _ _ => ?_ | refine tail_k fun _ _ _ => ?_ | refine ext_k fun _ _ _ => ?_ | refine need_a ?_ | refine st_agg KR rfl ON fun _ _ _ _ => ?_ | refine wpd_q_a ?_
    | simp (maxDischargeDepth := 3) only [↓X, ↓Y, ↓Q, S1, ↓reduceIte, Nat.reduceEqDiff, Nat.reduceAdd, Int.reduceLT, Int.reduceLE, Int.reduceNeg, Int.reduceBEq, Int.reduceBNe, Int.reduceEq, Nat.reduceLeDiff, Nat.reduceMul, Nat.reduceLT, *]
    | simp (singlePass := true) (maxDischargeDepth := 99) only [*, S2, Nat.reduceLT])
      exact ⟨0, rfl, rfl⟩
    · rintro k m3 g3 w3 hk3 hlt3 n3 s3 b3 hw3 ⟨hi3, hf3, c, hc, hcq⟩
      simp (maxDischargeDepth := 3) only [U, ↓reduceIte, Nat.reduceEqDiff, *] at hf3
      have g1 : (hs.map natV)[k]? = some (.int .i64 (hs.getD k 0 : Nat)) := rowN_get (by omega)
      have e3 := max_nat c (hs.getD k 0)
      have htk : (hs.take (k + 1)).foldl (fun m k => max m k) 0 = max c (hs.getD k 0) := by
        rw [appLL_take (by omega), List.foldl_append, ← hcq.out, List.foldl_cons, List.foldl_nil, List.getD_eq_getElem?_getD, List.getElem?_eq_getElem (by omega)]; rfl
      replace htk : Hid _ := htk
      (repeat' first
    | ((with_reducible refine at_row ?_); refine row1_a fun _ _ _ _ _ _ _ => ?_)
    | with_reducible first | (first | apply alloc_k | apply row_k); intro _ _ _ _ _ _ | (first | apply fork | apply forkp) <;> intro _ | refine forke (fun _ => ?_) fun _ _ => ?_ | refine tail_k fun _ _ _ => ?_ | refine ext_k fun _ _ _ => ?_ | refine need_a ?_ | refine st_agg KR rfl ON fun _ _ _ _ => ?_ | refine wpd_q_a ?_
    | simp (maxDischargeDepth := 3) only [↓X, ↓Y, ↓Q, S1, ↓reduceIte, Nat.reduceEqDiff, Nat.reduceAdd, Int.reduceLT, Int.reduceLE, Int.reduceNeg, Int.reduceBEq, Int.reduceBNe, Int.reduceEq, Nat.reduceLeDiff, Nat.reduceMul, Nat.reduceLT, *]
    | simp (singlePass := true) (maxDischargeDepth := 99) only [*, S2, Nat.reduceLT])
      refine next_k hk3 hlt3 ?_ FR
      (repeat' first
    | ((with_reducible refine at_row ?_); refine row1_a fun _ _ _ _ _ _ _ => ?_)
    | with_reducible first | (first | apply alloc_k | apply row_k); intro _ _ _ _ _ _ | (first | apply fork | apply forkp) <;> intro _ | refine forke (fun _ => ?_) fun _ _ => ?_ | refine tail_k fun _ _ _ => ?_ | refine ext_k fun _ _ _ => ?_ | refine need_a ?_ | refine st_agg KR rfl ON fun _ _ _ _ => ?_ | refine wpd_q_a ?_
    | simp (maxDischargeDepth := 3) only [↓X, ↓Y, ↓Q, S1, ↓reduceIte, Nat.reduceEqDiff, Nat.reduceAdd, Int.reduceLT, Int.reduceLE, Int.reduceNeg, Int.reduceBEq, Int.reduceBNe, Int.reduceEq, Nat.reduceLeDiff, Nat.reduceMul, Nat.reduceLT, *]
    | simp (singlePass := true) (maxDischargeDepth := 99) only [*, S2, Nat.reduceLT])
      exact ⟨_, rfl, htk.out.symm⟩
    · rintro g3 w3 n3 s3 b3 ⟨hi3, hf3, c, hc, hcq⟩
      simp (maxDischargeDepth := 3) only [U, ↓reduceIte, Nat.reduceEqDiff, *] at hf3
      have hcH : c = H := by
        rw [hcq.out, ← hb.out, ← hsl, List.take_length]
      subst hcH
      (repeat' first
    | ((with_reducible refine at_row ?_); refine row1_a fun _ _ _ _ _ _ _ => ?_)
    | with_reducible first | (first | apply alloc_k | apply row_k); intro _ _ _ _ _ _ | (first | apply fork | apply forkp) <;> intro _ | refine forke (fun _ => ?_) fun _ _ => ?_ | refine tail_k fun _ _ _ => ?_ | refine ext_k fun _ _ _ => ?_ | refine need_a ?_ | refine st_agg KR rfl ON fun _ _ _ _ => ?_ | refine wpd_q_a ?_
    | simp (maxDischargeDepth := 3) only [↓X, ↓Y, ↓Q, S1, ↓reduceIte, Nat.reduceEqDiff, Nat.reduceAdd, Int.reduceLT, Int.reduceLE, Int.reduceNeg, Int.reduceBEq, Int.reduceBNe, Int.reduceEq, Nat.reduceLeDiff, Nat.reduceMul, Nat.reduceLT, *]
    | simp (singlePass := true) (maxDischargeDepth := 99) only [*, S2, Nat.reduceLT])
/-- The document's width. -/
def widthE (A : List (List Int)) : Nat × Int := if (ofS A).1 = 0 then (wideL (ofS A).2.2 (2 ^ A.length), 0) else (0, (ofS A).1)
theorem all_snoc {l : List Nat} {p : Nat → Bool} {k : Nat} (h : k < l.length) : (l.take (k + 1)).all p = ((l.take k).all p && p l[k]) := by
  rw [appLL_take h, List.all_append]; simp
theorem ref10Width (hB : B ≤ w.heap.size) (hv : LLR w B v vs after) : Ret Tryd.prog 40 #[v] w (.tuple #[natV (widthE after).1, intV (widthE after).2]) := by
  have hn : Now w := trivial
  have hx : Ext w w := Ext.refl w
  have hl := hv.len_
  have hl3 : lenN v = after.length := hl.2.2
  have hl1 := hl.1
  have hl2 := hl.2.1
  have hV := fun w' (h : Bl B w w') => hv.blz h
  have hva := fun w' (h : Bl B w w') (h3 : B ≤ w'.heap.size) => ref10Valid h3 (hV w' h)
  have hbw : Bl B w w := Bl.refl hB
  have hmax : after.length ≤ 9223372036854775807 := hv.max_
  replace hV : Hid _ := hV
  clear hl
  unfold widthE
  by_cases h0 : (ofS after).1 = 0
  rotate_left
  · rw [if_neg h0]
    generalize (ofS after).1 = e at *
    have e1 : (e == 0) = false := by simpa using h0
    have e2 : (e != 0) = true := by simpa using h0
    (refine callsV_of Tryd.func40 rfl KR KR ?_; rw [Tryd.results40])
    (repeat' first
    | ((with_reducible refine at_row ?_); refine row1_a fun _ _ _ _ _ _ _ => ?_)
    | with_reducible first | (first | apply alloc_k | apply row_k); intro _ _ _ _ _ _ | (first | apply fork | apply forkp) <;> intro _ | refine forke (fun _ => ?_) fun _ _ => ?_ | refine tail_k fun _ _ _ => ?_ | refine ext_k fun _ _ _ => ?_ | refine need_a ?_ | refine st_agg KR rfl ON fun _ _ _ _ => ?_ | refine wpd_q_a ?_
    | ((with_reducible refine at_f 31 ?_); refine ret_k (hva _ FR FR) fun _ _ _ => ?_)
    | simp (maxDischargeDepth := 3) only [↓X, ↓Y, ↓Q, S1, ↓reduceIte, Nat.reduceEqDiff, Nat.reduceAdd, Int.reduceLT, Int.reduceLE, Int.reduceNeg, Int.reduceBEq, Int.reduceBNe, Int.reduceEq, Nat.reduceLeDiff, Nat.reduceMul, Nat.reduceLT, *]
    | simp (singlePass := true) (maxDischargeDepth := 99) only [*, S2, Nat.reduceLT])
  rw [h0] at hva
  rw [if_pos h0]
  obtain ⟨h12, hran, hbl, hblt⟩ := ref_ok h0
  rw [(ord_ok h0).2.2.2.1]
  replace hran : Hid _ := hran
  have hpow := two_pow_le h12
  have es := shlI_nat (k := after.length) (by omega)
  clear h0
  (refine callsV_of Tryd.func40 rfl KR KR ?_; rw [Tryd.results40])
  (repeat' first
    | ((with_reducible refine at_row ?_); refine row1_a fun _ _ _ _ _ _ _ => ?_)
    | with_reducible first | (first | apply alloc_k | apply row_k); intro _ _ _ _ _ _ | (first | apply fork | apply forkp) <;> intro _ | refine forke (fun _ => ?_) fun _ _ => ?_ | refine tail_k fun _ _ _ => ?_ | refine ext_k fun _ _ _ => ?_ | refine need_a ?_ | refine st_agg KR rfl ON fun _ _ _ _ => ?_ | refine wpd_q_a ?_
    | ((with_reducible refine at_f 31 ?_); refine ret_k (hva _ FR FR) fun _ _ _ => ?_)
    | simp (maxDischargeDepth := 3) only [↓X, ↓Y, ↓Q, S1, ↓reduceIte, Nat.reduceEqDiff, Nat.reduceAdd, Int.reduceLT, Int.reduceLE, Int.reduceNeg, Int.reduceBEq, Int.reduceBNe, Int.reduceEq, Nat.reduceLeDiff, Nat.reduceMul, Nat.reduceLT, *]
    | simp (singlePass := true) (maxDischargeDepth := 99) only [*, S2, Nat.reduceLT])
  refine call_k (ref10before (B := B) FR (hV.out _ FR) h12 hran.out) ?_
  rintro _ w6 n6 s6 ⟨b, rfl, hbk, hbs⟩
  have kb := hbk.bk
  generalize bef (natA after) = al at *
  replace hblt : Hid _ := hblt
  clear hbk
  (repeat' first
    | ((with_reducible refine at_row ?_); refine row1_a fun _ _ _ _ _ _ _ => ?_)
    | with_reducible first | (first | apply alloc_k | apply row_k); intro _ _ _ _ _ _ | (first | apply fork | apply forkp) <;> intro _ | refine forke (fun _ => ?_) fun _ _ => ?_ | refine tail_k fun _ _ _ => ?_ | refine ext_k fun _ _ _ => ?_ | refine need_a ?_ | refine st_agg KR rfl ON fun _ _ _ _ => ?_ | refine wpd_q_a ?_
    | simp (maxDischargeDepth := 3) only [↓X, ↓Y, ↓Q, S1, ↓reduceIte, Nat.reduceEqDiff, Nat.reduceAdd, Int.reduceLT, Int.reduceLE, Int.reduceNeg, Int.reduceBEq, Int.reduceBNe, Int.reduceEq, Nat.reduceLeDiff, Nat.reduceMul, Nat.reduceLT, *]
    | simp (singlePass := true) (maxDischargeDepth := 99) only [*, S2, Nat.reduceLT])
  refine loop_k (2 ^ after.length) (fun g0 k g w' => g 7 = .int .i64 (k : Int) ∧ (g 0 = g0 0 ∧ g 5 = g0 5) ∧ ∃ c : Nat, g 6 = .int .i64 (c : Int) ∧ Hid (c = wideL al k)) KR (by omega) ?_ ?_ ?_
  · (repeat' first
    | ((with_reducible refine at_row ?_); refine row1_a fun _ _ _ _ _ _ _ => ?_)
    | with_reducible first | (first | apply alloc_k | apply row_k); intro _ _ _ _ _ _ | (first | apply fork | apply forkp) <;> intro _ | refine forke (fun _ => ?_) fun _ _ => ?_ | refine tail_k fun _ _ _ => ?_ | refine ext_k fun _ _ _ => ?_ | refine need_a ?_ | refine st_agg KR rfl ON fun _ _ _ _ => ?_ | refine wpd_q_a ?_
    | simp (maxDischargeDepth := 3) only [↓X, ↓Y, ↓Q, S1, ↓reduceIte, Nat.reduceEqDiff, Nat.reduceAdd, Int.reduceLT, Int.reduceLE, Int.reduceNeg, Int.reduceBEq, Int.reduceBNe, Int.reduceEq, Nat.reduceLeDiff, Nat.reduceMul, Nat.reduceLT, *]
    | simp (singlePass := true) (maxDischargeDepth := 99) only [*, S2, Nat.reduceLT])
    exact ⟨0, rfl, rfl⟩
  · rintro k m g wk hk hlt nk sk bk hw ⟨hi, hf, c, hc, hcq⟩
    simp (maxDischargeDepth := 3) only [U, ↓reduceIte, Nat.reduceEqDiff, *] at hf
    have hk4 : k < 4096 := by omega
    have hltI : (k : Int) < ((2 ^ after.length : Nat) : Int) := by exact_mod_cast hlt
    (repeat' first
    | ((with_reducible refine at_row ?_); refine row1_a fun _ _ _ _ _ _ _ => ?_)
    | with_reducible first | (first | apply alloc_k | apply row_k); intro _ _ _ _ _ _ | (first | apply fork | apply forkp) <;> intro _ | refine forke (fun _ => ?_) fun _ _ => ?_ | refine tail_k fun _ _ _ => ?_ | refine ext_k fun _ _ _ => ?_ | refine need_a ?_ | refine st_agg KR rfl ON fun _ _ _ _ => ?_ | refine wpd_q_a ?_
    | simp (maxDischargeDepth := 3) only [↓X, ↓Y, ↓Q, S1, ↓reduceIte, Nat.reduceEqDiff, Nat.reduceAdd, Int.reduceLT, Int.reduceLE, Int.reduceNeg, Int.reduceBEq, Int.reduceBNe, Int.reduceEq, Nat.reduceLeDiff, Nat.reduceMul, Nat.reduceLT, *]
    | simp (singlePass := true) (maxDischargeDepth := 99) only [*, S2, Nat.reduceLT])
    refine call_k (ref10list (s := k) hk4) ?_
    intro u w7 n7 s7 hu
    have K := (hu.sl1 (f := natV)).k (Nat.le_refl _)
    have hcl : (lst k).length ≤ 12 := lst_le12 k
    have hmem : ∀ j (h : j < (lst k).length), (lst k)[j] < after.length := fun j h => mem_lst (List.getElem_mem h) hlt
    have hnx : Hid (wideL al (k + 1) = if goodN al k then max c (card k) else c) := by
      show wideL al (k + 1) = _
      rw [wideL, hcq.out]
    replace hmem : Hid _ := hmem
    have hgood : Hid (goodN al k = ((lst k).take (lst k).length).all fun i => al.getD i 0 &&& k == 0) := by
      show goodN al k = _
      rw [List.take_length]; rfl
    have hcd : Hid (card k = (lst k).length) := rfl
    generalize goodN al k = gd at *
    generalize card k = cd at *
    clear hu hcq
    generalize hL : lst k = L at *
    (repeat' first
    | ((with_reducible refine at_row ?_); refine row1_a fun _ _ _ _ _ _ _ => ?_)
    | with_reducible first | (first | apply alloc_k | apply row_k); intro _ _ _ _ _ _ | (first | apply fork | apply forkp) <;> intro _ | refine forke (fun _ => ?_) fun _ _ => ?_ | refine tail_k fun _ _ _ => ?_ | refine ext_k fun _ _ _ => ?_ | refine need_a ?_ | refine st_agg KR rfl ON fun _ _ _ _ => ?_ | refine wpd_q_a ?_
    | simp (maxDischargeDepth := 3) only [↓X, ↓Y, ↓Q, S1, ↓reduceIte, Nat.reduceEqDiff, Nat.reduceAdd, Int.reduceLT, Int.reduceLE, Int.reduceNeg, Int.reduceBEq, Int.reduceBNe, Int.reduceEq, Nat.reduceLeDiff, Nat.reduceMul, Nat.reduceLT, *]
    | simp (singlePass := true) (maxDischargeDepth := 99) only [*, S2, Nat.reduceLT])
    refine loop_k L.length (fun g0 j g w' => g 30 = .int .i64 (j : Int) ∧ (g 0 = g0 0 ∧ g 5 = g0 5 ∧ g 6 = g0 6 ∧ g 7 = g0 7 ∧ g 8 = g0 8 ∧ g 28 = g0 28 ∧ g 29 = g0 29) ∧ g 9 = .bool ((L.take j).all fun i => al.getD i 0 &&& k == 0)) KR (by omega) ?_ ?_ ?_
    · (repeat' first
    | ((with_reducible refine at_row ?_); refine row1_a fun _ _ _ _ _ _ _ => ?_)
    | with_reducible first | (first | apply alloc_k | apply row_k); intro _ _ _ _ _ _ | (first | apply fork | apply forkp) <;> intro _ | refine forke (fun _ => ?_) fun _ _ => ?_ | refine tail_k fun _ _ _ => ?_ | refine ext_k fun _ _ _ => ?_ | refine need_a ?_ | refine st_agg KR rfl ON fun _ _ _ _ => ?_ | refine wpd_q_a ?_
    | simp (maxDischargeDepth := 3) only [↓X, ↓Y, ↓Q, S1, ↓reduceIte, Nat.reduceEqDiff, Nat.reduceAdd, Int.reduceLT, Int.reduceLE, Int.reduceNeg, Int.reduceBEq, Int.reduceBNe, Int.reduceEq, Nat.reduceLeDiff, Nat.reduceMul, Nat.reduceLT, *]
    | simp (singlePass := true) (maxDischargeDepth := 99) only [*, S2, Nat.reduceLT])
      all_goals rfl
    · rintro j m3 g3 w3 hk3 hlt3 n3 s3 b3 hw3 ⟨hi3, hf3, h9⟩
      simp (maxDischargeDepth := 3) only [U, ↓reduceIte, Nat.reduceEqDiff, *] at hf3
      have hx := hmem.out j hlt3
      have hsn := all_snoc (p := fun i => al.getD i 0 &&& k == 0) hlt3
      have g1 : (al.map natV)[L[j]]? = some (.int .i64 (al.getD L[j] 0 : Nat)) := rowN_get (by omega)
      have ea := andI_nat (a := al.getD L[j] 0) (b := k) (by have := hblt.out L[j]; omega) (by omega)
      have ez : (((al.getD L[j] 0 &&& k : Nat) : Int) == 0) = (al.getD L[j] 0 &&& k == 0) := by
        cases h : al.getD L[j] 0 &&& k == 0
        · have : al.getD L[j] 0 &&& k ≠ 0 := by simpa using h
          rw [beq_eq_false_iff_ne]; omega
        · have : al.getD L[j] 0 &&& k = 0 := by simpa using h
          rw [this]; rfl
      generalize (L.take j).all (fun i => al.getD i 0 &&& k == 0) = p at *
      generalize (al.getD L[j] 0 &&& k == 0) = q at *
      replace hsn : Hid _ := hsn
      cases p
      · (repeat' first
    | ((with_reducible refine at_row ?_); refine row1_a fun _ _ _ _ _ _ _ => ?_)
    | with_reducible first | (first | apply alloc_k | apply row_k); intro _ _ _ _ _ _ | (first | apply fork | apply forkp) <;> intro _ | refine forke (fun _ => ?_) fun _ _ => ?_ | refine tail_k fun _ _ _ => ?_ | refine ext_k fun _ _ _ => ?_ | refine need_a ?_ | refine st_agg KR rfl ON fun _ _ _ _ => ?_ | refine wpd_q_a ?_
    | simp (maxDischargeDepth := 3) only [↓X, ↓Y, ↓Q, S1, ↓reduceIte, Nat.reduceEqDiff, Nat.reduceAdd, Int.reduceLT, Int.reduceLE, Int.reduceNeg, Int.reduceBEq, Int.reduceBNe, Int.reduceEq, Nat.reduceLeDiff, Nat.reduceMul, Nat.reduceLT, *]
    | simp (singlePass := true) (maxDischargeDepth := 99) only [*, S2, Nat.reduceLT])
        refine next_k hk3 hlt3 ?_ FR
        (repeat' first
    | ((with_reducible refine at_row ?_); refine row1_a fun _ _ _ _ _ _ _ => ?_)
    | with_reducible first | (first | apply alloc_k | apply row_k); intro _ _ _ _ _ _ | (first | apply fork | apply forkp) <;> intro _ | refine forke (fun _ => ?_) fun _ _ => ?_ | refine tail_k fun _ _ _ => ?_ | refine ext_k fun _ _ _ => ?_ | refine need_a ?_ | refine st_agg KR rfl ON fun _ _ _ _ => ?_ | refine wpd_q_a ?_
    | simp (maxDischargeDepth := 3) only [↓X, ↓Y, ↓Q, S1, ↓reduceIte, Nat.reduceEqDiff, Nat.reduceAdd, Int.reduceLT, Int.reduceLE, Int.reduceNeg, Int.reduceBEq, Int.reduceBNe, Int.reduceEq, Nat.reduceLeDiff, Nat.reduceMul, Nat.reduceLT, *, hsn.out]
    | simp (singlePass := true) (maxDischargeDepth := 99) only [*, S2, Nat.reduceLT, hsn.out])
      · (repeat' first
    | ((with_reducible refine at_row ?_); refine row1_a fun _ _ _ _ _ _ _ => ?_)
    | with_reducible first | (first | apply alloc_k | apply row_k); intro _ _ _ _ _ _ | (first | apply fork | apply forkp) <;> intro _ | refine forke (fun _ => ?_) fun _ _ => ?_ | refine tail_k fun _ _ _ => ?_ | refine ext_k fun _ _ _ => ?_ | refine need_a ?_ | refine st_agg KR rfl ON fun _ _ _ _ => ?_ | refine wpd_q_a ?_
    | simp (maxDischargeDepth := 3) only [↓X, ↓Y, ↓Q, S1, ↓reduceIte, Nat.reduceEqDiff, Nat.reduceAdd, Int.reduceLT, Int.reduceLE, Int.reduceNeg, Int.reduceBEq, Int.reduceBNe, Int.reduceEq, Nat.reduceLeDiff, Nat.reduceMul, Nat.reduceLT, *]
    | simp (singlePass := true) (maxDischargeDepth := 99) only [*, S2, Nat.reduceLT])
        refine next_k hk3 hlt3 ?_ FR
        (repeat' first
    | ((with_reducible refine at_row ?_); refine row1_a fun _ _ _ _ _ _ _ => ?_)
    | with_reducible first | (first | apply alloc_k | apply row_k); intro _ _ _ _ _ _ | (first | apply fork | apply forkp) <;> intro _ | refine forke (fun _ => ?_) fun _ _ => ?_ | refine tail_k fun _ _ _ => ?_ | refine ext_k fun _ _ _ => ?_ | refine need_a ?_ | refine st_agg KR rfl ON fun _ _ _ _ => ?_ | refine wpd_q_a ?_
    | simp (maxDischargeDepth := 3) only [↓X, ↓Y, ↓Q, S1, ↓reduceIte, Nat.reduceEqDiff, Nat.reduceAdd, Int.reduceLT, Int.reduceLE, Int.reduceNeg, Int.reduceBEq, Int.reduceBNe, Int.reduceEq, Nat.reduceLeDiff, Nat.reduceMul, Nat.reduceLT, *, hsn.out]
    | simp (singlePass := true) (maxDischargeDepth := 99) only [*, S2, Nat.reduceLT, hsn.out])
    · rintro g3 w3 n3 s3 b3 ⟨hi3, hf3, h9⟩
      simp (maxDischargeDepth := 3) only [U, ↓reduceIte, Nat.reduceEqDiff, *] at hf3
      rw [← hgood.out] at h9
      have hmx := max_nat c L.length
      cases gd
      · (repeat' first
    | ((with_reducible refine at_row ?_); refine row1_a fun _ _ _ _ _ _ _ => ?_)
    | with_reducible first | (first | apply alloc_k | apply row_k); intro _ _ _ _ _ _ | (first | apply fork | apply forkp) <;> intro _ | refine forke (fun _ => ?_) fun _ _ => ?_ | refine tail_k fun _ _ _ => ?_ | refine ext_k fun _ _ _ => ?_ | refine need_a ?_ | refine st_agg KR rfl ON fun _ _ _ _ => ?_ | refine wpd_q_a ?_
    | simp (maxDischargeDepth := 3) only [↓X, ↓Y, ↓Q, S1, ↓reduceIte, Nat.reduceEqDiff, Nat.reduceAdd, Int.reduceLT, Int.reduceLE, Int.reduceNeg, Int.reduceBEq, Int.reduceBNe, Int.reduceEq, Nat.reduceLeDiff, Nat.reduceMul, Nat.reduceLT, *]
    | simp (singlePass := true) (maxDischargeDepth := 99) only [*, S2, Nat.reduceLT])
        refine next_k hk hlt ?_ FR
        (repeat' first
    | ((with_reducible refine at_row ?_); refine row1_a fun _ _ _ _ _ _ _ => ?_)
    | with_reducible first | (first | apply alloc_k | apply row_k); intro _ _ _ _ _ _ | (first | apply fork | apply forkp) <;> intro _ | refine forke (fun _ => ?_) fun _ _ => ?_ | refine tail_k fun _ _ _ => ?_ | refine ext_k fun _ _ _ => ?_ | refine need_a ?_ | refine st_agg KR rfl ON fun _ _ _ _ => ?_ | refine wpd_q_a ?_
    | simp (maxDischargeDepth := 3) only [↓X, ↓Y, ↓Q, S1, ↓reduceIte, Nat.reduceEqDiff, Nat.reduceAdd, Int.reduceLT, Int.reduceLE, Int.reduceNeg, Int.reduceBEq, Int.reduceBNe, Int.reduceEq, Nat.reduceLeDiff, Nat.reduceMul, Nat.reduceLT, *]
    | simp (singlePass := true) (maxDischargeDepth := 99) only [*, S2, Nat.reduceLT])
        exact ⟨c, rfl, by rw [hnx.out]; rfl⟩
      · (repeat' first
    | ((with_reducible refine at_row ?_); refine row1_a fun _ _ _ _ _ _ _ => ?_)
    | with_reducible first | (first | apply alloc_k | apply row_k); intro _ _ _ _ _ _ | (first | apply fork | apply forkp) <;> intro _ | refine forke (fun _ => ?_) fun _ _ => ?_ | refine tail_k fun _ _ _ => ?_ | refine ext_k fun _ _ _ => ?_ | refine need_a ?_ | refine st_agg KR rfl ON fun _ _ _ _ => ?_ | refine wpd_q_a ?_
    | simp (maxDischargeDepth := 3) only [↓X, ↓Y, ↓Q, S1, ↓reduceIte, Nat.reduceEqDiff, Nat.reduceAdd, Int.reduceLT, Int.reduceLE, Int.reduceNeg, Int.reduceBEq, Int.reduceBNe, Int.reduceEq, Nat.reduceLeDiff, Nat.reduceMul, Nat.reduceLT, *]
    | simp (singlePass := true) (maxDischargeDepth := 99) only [*, S2, Nat.reduceLT])
        refine next_k hk hlt ?_ FR
        (repeat' first
    | ((with_reducible refine at_row ?_); refine row1_a fun _ _ _ _ _ _ _ => ?_)
    | with_reducible first | (first | apply alloc_k | apply row_k); intro _ _ _ _ _ _ | (first | apply fork | apply forkp) <;> intro _ | refine forke (fun _ => ?_) fun _ _ => ?_ | refine tail_k fun _ _ _ => ?_ | refine ext_k fun _ _ _ => ?_ | refine need_a ?_ | refine st_agg KR rfl ON fun _ _ _ _ => ?_ | refine wpd_q_a ?_
    | simp (maxDischargeDepth := 3) only [↓X, ↓Y, ↓Q, S1, ↓reduceIte, Nat.reduceEqDiff, Nat.reduceAdd, Int.reduceLT, Int.reduceLE, Int.reduceNeg, Int.reduceBEq, Int.reduceBNe, Int.reduceEq, Nat.reduceLeDiff, Nat.reduceMul, Nat.reduceLT, *]
    | simp (singlePass := true) (maxDischargeDepth := 99) only [*, S2, Nat.reduceLT])
        exact ⟨max c L.length, rfl, by rw [hnx.out, hcd.out]; rfl⟩
  · rintro g wk nk sk bk ⟨hi, hf, c, hc, hcq⟩
    simp (maxDischargeDepth := 3) only [U, ↓reduceIte, Nat.reduceEqDiff, *] at hf
    rw [← hcq.out]
    (repeat' first
    | ((with_reducible refine at_row ?_); refine row1_a fun _ _ _ _ _ _ _ => ?_)
    | with_reducible first | (first | apply alloc_k | apply row_k); intro _ _ _ _ _ _ | (first | apply fork | apply forkp) <;> intro _ | refine forke (fun _ => ?_) fun _ _ => ?_ | refine tail_k fun _ _ _ => ?_ | refine ext_k fun _ _ _ => ?_ | refine need_a ?_ | refine st_agg KR rfl ON fun _ _ _ _ => ?_ | refine wpd_q_a ?_
    | simp (maxDischargeDepth := 3) only [↓X, ↓Y, ↓Q, S1, ↓reduceIte, Nat.reduceEqDiff, Nat.reduceAdd, Int.reduceLT, Int.reduceLE, Int.reduceNeg, Int.reduceBEq, Int.reduceBNe, Int.reduceEq, Nat.reduceLeDiff, Nat.reduceMul, Nat.reduceLT, *]
    | simp (singlePass := true) (maxDischargeDepth := 99) only [*, S2, Nat.reduceLT])
theorem ref10Divides {B' : Nat} {u : Value} {us : List Value} {cs : List (List Nat)} (hB : B ≤ w.heap.size) (hB' : B' ≤ w.heap.size) (hv : LLR w B v vs after) (hu : LLR w B' u us (cs.map intL)) (h0 : (ofS after).1 = 0) (hc : ChOk after cs) : Ret Tryd.prog 41 #[v, u] w (.bool true) := by
  have hn : Now w := trivial
  have hx : Ext w w := Ext.refl w
  have hl := hv.len_
  have hl3 : lenN v = after.length := hl.2.2
  have hl1 := hl.1
  have hl2 := hl.2.1
  have hlu := hu.len_
  have hu1 := hlu.1
  have hu2 := hlu.2.1
  have hu3 : lenN u = cs.length := by rw [hlu.2.2, List.length_map]
  have hV := fun w' (h : Bl B w w') => hv.blz h
  have hg := fun w' (h : Bl B' w w') (k : Nat) (hk : k < cs.length) => (hu.blz h).get (i := k) (by rw [List.length_map]; exact hk)
  simp only [List.getElem_map, map_intL] at hg
  have hbw : Bl B w w := Bl.refl hB
  have hbu : Bl B' w w := Bl.refl hB'
  have hmax : cs.length ≤ 9223372036854775807 := by have := hu.max_; rwa [List.length_map] at this
  obtain ⟨h12, hran, hbl, hblt⟩ := ref_ok h0
  have hal := (ord_ok h0).2.2.2.1
  have hat : Hid (∀ t (ht : t < cs.length) i (hi : i < cs[t].length), cs[t][i] < after.length ∧ cs[t][i] ∉ (cs.take t).flatten ++ cs[t].take i ∧ (cs.take t).flatten ++ cs[t].take (i + 1) = ((cs.take t).flatten ++ cs[t].take i) ++ [cs[t][i]]) := fun t ht i hi => ch_at hc ht hi
  have hed : Hid (∀ t (ht : t < cs.length) i (hi : i + 1 < cs[t].length), ((bef (natA after)).getD (cs[t][i + 1]) 0).testBit cs[t][i] = true) := fun t ht i hi => by
    have := hc.ed _ (List.getElem_mem ht) i hi
    rwa [edg, hal] at this
  have hne : Hid (∀ t (ht : t < cs.length), 0 < cs[t].length ∧ cs[t].length ≤ 12) := fun t ht => by
    have h1 := hc.ne _ (List.getElem_mem ht)
    have h2 := hc.hi _ (List.getElem_mem ht)
    have h3 := (height_ok h0 rfl).1
    exact ⟨List.length_pos_iff.2 h1, by omega⟩
  have hsl : Hid (∀ P : List Nat, (∀ x ∈ P, x < after.length) → setL P < 4096) := fun P hP => by
    have := setL_lt (s := 0) (Nat.pow_pos (n := after.length) (by decide)) hP
    have := two_pow_le h12
    unfold setL
    omega
  have hPl : Hid (∀ t i (ht : t < cs.length), ∀ x ∈ (cs.take t).flatten ++ cs[t].take i, x < after.length) := fun t i ht x hx => by
    rcases List.mem_append.1 hx with h | h
    · obtain ⟨l, hl, hxl⟩ := List.mem_flatten.1 h
      exact (hc.all x).1 (List.mem_flatten.2 ⟨l, List.mem_of_mem_take hl, hxl⟩)
    · exact (hc.all x).1 (List.mem_flatten.2 ⟨_, List.getElem_mem ht, List.mem_of_mem_take h⟩)
  have hfull : Hid (setL cs.flatten = 2 ^ after.length - 1) := setL_full hc.all
  have hnext : Hid (∀ t (ht : t < cs.length), (cs.take (t + 1)).flatten = (cs.take t).flatten ++ cs[t].take cs[t].length) := fun t ht => ch_next ht
  have hpow := two_pow_le h12
  have es := shlI_nat (k := after.length) (by omega)
  have hpp := Nat.pow_pos (n := after.length) (show 0 < 2 by decide)
  have hw1 : IntKind.i64.wrap (((2 ^ after.length : Nat) : Int) - 1) = ((2 ^ after.length - 1 : Nat) : Int) := by
    rw [show ((2 ^ after.length : Nat) : Int) - 1 = ((2 ^ after.length - 1 : Nat) : Int) by omega, wrap_nat (by omega)]
  replace hran : Hid _ := hran
  replace hg : Hid _ := hg
  replace hV : Hid _ := hV
  clear h0 hc hal hl hlu
  (refine callsV_of Tryd.func41 rfl KR KR ?_; rw [Tryd.results41])
  (repeat' first
    | ((with_reducible refine at_row ?_); refine row1_a fun _ _ _ _ _ _ _ => ?_)
    | with_reducible first | (first | apply alloc_k | apply row_k); intro _ _ _ _ _ _ | (first | apply fork | apply forkp) <;> intro _ | refine forke (fun _ => ?_) fun _ _ => ?_ | refine tail_k fun _ _ _ => ?_ | refine ext_k fun _ _ _ => ?_ | refine need_a ?_ | refine st_agg KR rfl ON fun _ _ _ _ => ?_ | refine wpd_q_a ?_
    | simp (maxDischargeDepth := 3) only [↓X, ↓Y, ↓Q, S1, ↓reduceIte, Nat.reduceEqDiff, Nat.reduceAdd, Int.reduceLT, Int.reduceLE, Int.reduceNeg, Int.reduceBEq, Int.reduceBNe, Int.reduceEq, Nat.reduceLeDiff, Nat.reduceMul, Nat.reduceLT, *]
    | simp (singlePass := true) (maxDischargeDepth := 99) only [*, S2, Nat.reduceLT])
  refine call_k (ref10before (B := B) FR (hV.out _ FR) h12 hran.out) ?_
  rintro _ w6 n6 s6 ⟨b, rfl, hbk, hbs⟩
  have kb := hbk.bk
  generalize bef (natA after) = al at *
  replace hblt : Hid _ := hblt
  clear hbk
  (repeat' first
    | ((with_reducible refine at_row ?_); refine row1_a fun _ _ _ _ _ _ _ => ?_)
    | with_reducible first | (first | apply alloc_k | apply row_k); intro _ _ _ _ _ _ | (first | apply fork | apply forkp) <;> intro _ | refine forke (fun _ => ?_) fun _ _ => ?_ | refine tail_k fun _ _ _ => ?_ | refine ext_k fun _ _ _ => ?_ | refine need_a ?_ | refine st_agg KR rfl ON fun _ _ _ _ => ?_ | refine wpd_q_a ?_
    | simp (maxDischargeDepth := 3) only [↓X, ↓Y, ↓Q, S1, ↓reduceIte, Nat.reduceEqDiff, Nat.reduceAdd, Int.reduceLT, Int.reduceLE, Int.reduceNeg, Int.reduceBEq, Int.reduceBNe, Int.reduceEq, Nat.reduceLeDiff, Nat.reduceMul, Nat.reduceLT, *]
    | simp (singlePass := true) (maxDischargeDepth := 99) only [*, S2, Nat.reduceLT])
  refine loop_k cs.length (fun g0 t g _ => g 15 = .int .i64 (t : Int) ∧ (g 0 = g0 0 ∧ g 5 = g0 5 ∧ g 13 = g0 13 ∧ g 14 = g0 14) ∧ g 6 = .int .i64 (setL ((cs.take t).flatten) : Nat)) KR hmax ?_ ?_ ?_
  · (repeat' first
    | ((with_reducible refine at_row ?_); refine row1_a fun _ _ _ _ _ _ _ => ?_)
    | with_reducible first | (first | apply alloc_k | apply row_k); intro _ _ _ _ _ _ | (first | apply fork | apply forkp) <;> intro _ | refine forke (fun _ => ?_) fun _ _ => ?_ | refine tail_k fun _ _ _ => ?_ | refine ext_k fun _ _ _ => ?_ | refine need_a ?_ | refine st_agg KR rfl ON fun _ _ _ _ => ?_ | refine wpd_q_a ?_
    | simp (maxDischargeDepth := 3) only [↓X, ↓Y, ↓Q, S1, ↓reduceIte, Nat.reduceEqDiff, Nat.reduceAdd, Int.reduceLT, Int.reduceLE, Int.reduceNeg, Int.reduceBEq, Int.reduceBNe, Int.reduceEq, Nat.reduceLeDiff, Nat.reduceMul, Nat.reduceLT, *]
    | simp (singlePass := true) (maxDischargeDepth := 99) only [*, S2, Nat.reduceLT])
    all_goals rfl
  · rintro t m g wk hk hlt nk sk bk hw ⟨hi, hf, h6⟩
    simp (maxDischargeDepth := 3) only [U, ↓reduceIte, Nat.reduceEqDiff, *] at hf
    obtain ⟨z, hz, hsz⟩ := hg.out wk FR t hlt
    have hz' := hsz.k FR
    have hcl := hne.out t hlt
    have hzm : cs[t].length ≤ 9223372036854775807 := by omega
    have hnt := hnext.out t hlt
    have hc0 : ((cs[t].length : Int) == 0) = false := by rw [beq_eq_false_iff_ne]; omega
    have h60 : g 6 = .int .i64 (setL ((cs.take t).flatten ++ cs[t].take 0) : Nat) := by rw [List.take_zero, List.append_nil]; exact h6
    replace hnt : Hid _ := hnt
    replace hsz : Hid _ := hsz
    clear h6
    (repeat' first
    | ((with_reducible refine at_row ?_); refine row1_a fun _ _ _ _ _ _ _ => ?_)
    | with_reducible first | (first | apply alloc_k | apply row_k); intro _ _ _ _ _ _ | (first | apply fork | apply forkp) <;> intro _ | refine forke (fun _ => ?_) fun _ _ => ?_ | refine tail_k fun _ _ _ => ?_ | refine ext_k fun _ _ _ => ?_ | refine need_a ?_ | refine st_agg KR rfl ON fun _ _ _ _ => ?_ | refine wpd_q_a ?_
    | simp (maxDischargeDepth := 3) only [↓X, ↓Y, ↓Q, S1, ↓reduceIte, Nat.reduceEqDiff, Nat.reduceAdd, Int.reduceLT, Int.reduceLE, Int.reduceNeg, Int.reduceBEq, Int.reduceBNe, Int.reduceEq, Nat.reduceLeDiff, Nat.reduceMul, Nat.reduceLT, *]
    | simp (singlePass := true) (maxDischargeDepth := 99) only [*, S2, Nat.reduceLT])
    refine loop_k cs[t].length (fun g0 i g _ => g 24 = .int .i64 (i : Int) ∧ (g 0 = g0 0 ∧ g 5 = g0 5 ∧ g 8 = g0 8 ∧ g 13 = g0 13 ∧ g 14 = g0 14 ∧ g 15 = g0 15 ∧ g 22 = g0 22 ∧ g 23 = g0 23) ∧ g 6 = .int .i64 (setL ((cs.take t).flatten ++ cs[t].take i) : Nat)) KR hzm ?_ ?_ ?_
    · (repeat' first
    | ((with_reducible refine at_row ?_); refine row1_a fun _ _ _ _ _ _ _ => ?_)
    | with_reducible first | (first | apply alloc_k | apply row_k); intro _ _ _ _ _ _ | (first | apply fork | apply forkp) <;> intro _ | refine forke (fun _ => ?_) fun _ _ => ?_ | refine tail_k fun _ _ _ => ?_ | refine ext_k fun _ _ _ => ?_ | refine need_a ?_ | refine st_agg KR rfl ON fun _ _ _ _ => ?_ | refine wpd_q_a ?_
    | simp (maxDischargeDepth := 3) only [↓X, ↓Y, ↓Q, S1, ↓reduceIte, Nat.reduceEqDiff, Nat.reduceAdd, Int.reduceLT, Int.reduceLE, Int.reduceNeg, Int.reduceBEq, Int.reduceBNe, Int.reduceEq, Nat.reduceLeDiff, Nat.reduceMul, Nat.reduceLT, *]
    | simp (singlePass := true) (maxDischargeDepth := 99) only [*, S2, Nat.reduceLT])
    · rintro i m3 g3 w3 hk3 hlt3 n3 s3 b3 hw3 ⟨hi3, hf3, h6⟩
      simp (maxDischargeDepth := 3) only [U, ↓reduceIte, Nat.reduceEqDiff, *] at hf3
      obtain ⟨hx1, hx2, hx3⟩ := hat.out t hlt i hlt3
      have hS := hsl.out _ (hPl.out t i hlt)
      have hxn0 : ¬ ((cs[t][i] : Nat) : Int) < 0 := by omega
      have hxn1 : ¬ ((after.length : Nat) : Int) ≤ ((cs[t][i] : Nat) : Int) := by omega
      have hxn2 : ((cs[t][i] : Nat) : Int) < ((after.length : Nat) : Int) := by omega
      have g1 : (al.map natV)[cs[t][i]]? = some (.int .i64 (al.getD cs[t][i] 0 : Nat)) := rowN_get (by omega)
      have e1 := bit_eq1 (a := setL ((cs.take t).flatten ++ cs[t].take i)) (k := cs[t][i]) (by omega) (by omega)
      have e1b : (setL ((cs.take t).flatten ++ cs[t].take i)).testBit cs[t][i] = false := by
        cases h : (setL ((cs.take t).flatten ++ cs[t].take i)).testBit cs[t][i] with
        | false => rfl
        | true => exact absurd (setL_bit.1 h) hx2
      have e2 := shlI_nat (k := cs[t][i]) (by omega)
      have h2x := two_pow_le (k := cs[t][i]) (by omega)
      have e3 := orI_nat (a := setL ((cs.take t).flatten ++ cs[t].take i)) (b := 2 ^ cs[t][i]) (by omega) (by omega)
      have hx4 : setL ((cs.take t).flatten ++ cs[t].take (i + 1)) = setL ((cs.take t).flatten ++ cs[t].take i) ||| 2 ^ cs[t][i] := by rw [hx3, setL_add]
      have hz3 := hsz.out.k FR
      replace hx4 : Hid _ := hx4
      clear hx1 hx2 hx3
      cases i with
      | zero =>
        have hltI : (0 : Int) < ((cs[t].length : Nat) : Int) := by omega
        (repeat' first
    | ((with_reducible refine at_row ?_); refine row1_a fun _ _ _ _ _ _ _ => ?_)
    | with_reducible first | (first | apply alloc_k | apply row_k); intro _ _ _ _ _ _ | (first | apply fork | apply forkp) <;> intro _ | refine forke (fun _ => ?_) fun _ _ => ?_ | refine tail_k fun _ _ _ => ?_ | refine ext_k fun _ _ _ => ?_ | refine need_a ?_ | refine st_agg KR rfl ON fun _ _ _ _ => ?_ | refine wpd_q_a ?_
    | simp (maxDischargeDepth := 3) only [↓X, ↓Y, ↓Q, S1, ↓reduceIte, Nat.reduceEqDiff, Nat.reduceAdd, Int.reduceLT, Int.reduceLE, Int.reduceNeg, Int.reduceBEq, Int.reduceBNe, Int.reduceEq, Nat.reduceLeDiff, Nat.reduceMul, Nat.reduceLT, *]
    | simp (singlePass := true) (maxDischargeDepth := 99) only [*, S2, Nat.reduceLT])
        refine next_k hk3 hlt3 ?_ FR
        (repeat' first
    | ((with_reducible refine at_row ?_); refine row1_a fun _ _ _ _ _ _ _ => ?_)
    | with_reducible first | (first | apply alloc_k | apply row_k); intro _ _ _ _ _ _ | (first | apply fork | apply forkp) <;> intro _ | refine forke (fun _ => ?_) fun _ _ => ?_ | refine tail_k fun _ _ _ => ?_ | refine ext_k fun _ _ _ => ?_ | refine need_a ?_ | refine st_agg KR rfl ON fun _ _ _ _ => ?_ | refine wpd_q_a ?_
    | simp (maxDischargeDepth := 3) only [↓X, ↓Y, ↓Q, S1, ↓reduceIte, Nat.reduceEqDiff, Nat.reduceAdd, Int.reduceLT, Int.reduceLE, Int.reduceNeg, Int.reduceBEq, Int.reduceBNe, Int.reduceEq, Nat.reduceLeDiff, Nat.reduceMul, Nat.reduceLT, *]
    | simp (singlePass := true) (maxDischargeDepth := 99) only [*, S2, Nat.reduceLT])
        all_goals rw [hx4.out]
        all_goals exact ⟨rfl, rfl⟩
      | succ j =>
        have hlt4 : j < cs[t].length := by omega
        have hb := hed.out t hlt j hlt3
        have hlt4I : ((j : Nat) : Int) < ((cs[t].length : Nat) : Int) := by omega
        have e5 := bit_eq0 (a := al.getD cs[t][j + 1] 0) (k := cs[t][j]) (by have := hblt.out cs[t][j + 1]; omega) (by have := (hat.out t hlt j hlt4).1; omega)
        have e6 : IntKind.i64.wrap (((j + 1 : Nat) : Int) - 1) = (j : Int) := by rw [wrap_i64_id] <;> omega
        have e7 : (0 : Int) < ((j + 1 : Nat) : Int) := by omega
        (repeat' first
    | ((with_reducible refine at_row ?_); refine row1_a fun _ _ _ _ _ _ _ => ?_)
    | with_reducible first | (first | apply alloc_k | apply row_k); intro _ _ _ _ _ _ | (first | apply fork | apply forkp) <;> intro _ | refine forke (fun _ => ?_) fun _ _ => ?_ | refine tail_k fun _ _ _ => ?_ | refine ext_k fun _ _ _ => ?_ | refine need_a ?_ | refine st_agg KR rfl ON fun _ _ _ _ => ?_ | refine wpd_q_a ?_
    | simp (maxDischargeDepth := 3) only [↓X, ↓Y, ↓Q, S1, ↓reduceIte, Nat.reduceEqDiff, Nat.reduceAdd, Int.reduceLT, Int.reduceLE, Int.reduceNeg, Int.reduceBEq, Int.reduceBNe, Int.reduceEq, Nat.reduceLeDiff, Nat.reduceMul, Nat.reduceLT, *]
    | simp (singlePass := true) (maxDischargeDepth := 99) only [*, S2, Nat.reduceLT])
        refine next_k hk3 hlt3 ?_ FR
        (repeat' first
    | ((with_reducible refine at_row ?_); refine row1_a fun _ _ _ _ _ _ _ => ?_)
    | with_reducible first | (first | apply alloc_k | apply row_k); intro _ _ _ _ _ _ | (first | apply fork | apply forkp) <;> intro _ | refine forke (fun _ => ?_) fun _ _ => ?_ | refine tail_k fun _ _ _ => ?_ | refine ext_k fun _ _ _ => ?_ | refine need_a ?_ | refine st_agg KR rfl ON fun _ _ _ _ => ?_ | refine wpd_q_a ?_
    | simp (maxDischargeDepth := 3) only [↓X, ↓Y, ↓Q, S1, ↓reduceIte, Nat.reduceEqDiff, Nat.reduceAdd, Int.reduceLT, Int.reduceLE, Int.reduceNeg, Int.reduceBEq, Int.reduceBNe, Int.reduceEq, Nat.reduceLeDiff, Nat.reduceMul, Nat.reduceLT, *]
    | simp (singlePass := true) (maxDischargeDepth := 99) only [*, S2, Nat.reduceLT])
        all_goals rw [hx4.out]
    · rintro g3 w3 n3 s3 b3 ⟨hi3, hf3, h6⟩
      simp (maxDischargeDepth := 3) only [U, ↓reduceIte, Nat.reduceEqDiff, *] at hf3
      rw [← hnt.out] at h6
      (repeat' first
    | ((with_reducible refine at_row ?_); refine row1_a fun _ _ _ _ _ _ _ => ?_)
    | with_reducible first | (first | apply alloc_k | apply row_k); intro _ _ _ _ _ _ | (first | apply fork | apply forkp) <;> intro _ | refine forke (fun _ => ?_) fun _ _ => ?_ | refine tail_k fun _ _ _ => ?_ | refine ext_k fun _ _ _ => ?_ | refine need_a ?_ | refine st_agg KR rfl ON fun _ _ _ _ => ?_ | refine wpd_q_a ?_
    | simp (maxDischargeDepth := 3) only [↓X, ↓Y, ↓Q, S1, ↓reduceIte, Nat.reduceEqDiff, Nat.reduceAdd, Int.reduceLT, Int.reduceLE, Int.reduceNeg, Int.reduceBEq, Int.reduceBNe, Int.reduceEq, Nat.reduceLeDiff, Nat.reduceMul, Nat.reduceLT, *]
    | simp (singlePass := true) (maxDischargeDepth := 99) only [*, S2, Nat.reduceLT])
      refine next_k hk hlt ?_ FR
      (repeat' first
    | ((with_reducible refine at_row ?_); refine row1_a fun _ _ _ _ _ _ _ => ?_)
    | with_reducible first | (first | apply alloc_k | apply row_k); intro _ _ _ _ _ _ | (first | apply fork | apply forkp) <;> intro _ | refine forke (fun _ => ?_) fun _ _ => ?_ | refine tail_k fun _ _ _ => ?_ | refine ext_k fun _ _ _ => ?_ | refine need_a ?_ | refine st_agg KR rfl ON fun _ _ _ _ => ?_ | refine wpd_q_a ?_
    | simp (maxDischargeDepth := 3) only [↓X, ↓Y, ↓Q, S1, ↓reduceIte, Nat.reduceEqDiff, Nat.reduceAdd, Int.reduceLT, Int.reduceLE, Int.reduceNeg, Int.reduceBEq, Int.reduceBNe, Int.reduceEq, Nat.reduceLeDiff, Nat.reduceMul, Nat.reduceLT, *]
    | simp (singlePass := true) (maxDischargeDepth := 99) only [*, S2, Nat.reduceLT])
  · rintro g wk nk sk bk ⟨hi, hf, h6⟩
    simp (maxDischargeDepth := 3) only [U, ↓reduceIte, Nat.reduceEqDiff, *] at hf
    rw [List.take_length, hfull.out] at h6
    (repeat' first
    | ((with_reducible refine at_row ?_); refine row1_a fun _ _ _ _ _ _ _ => ?_)
    | with_reducible first | (first | apply alloc_k | apply row_k); intro _ _ _ _ _ _ | (first | apply fork | apply forkp) <;> intro _ | refine forke (fun _ => ?_) fun _ _ => ?_ | refine tail_k fun _ _ _ => ?_ | refine ext_k fun _ _ _ => ?_ | refine need_a ?_ | refine st_agg KR rfl ON fun _ _ _ _ => ?_ | refine wpd_q_a ?_
    | simp (maxDischargeDepth := 3) only [↓X, ↓Y, ↓Q, S1, ↓reduceIte, Nat.reduceEqDiff, Nat.reduceAdd, Int.reduceLT, Int.reduceLE, Int.reduceNeg, Int.reduceBEq, Int.reduceBNe, Int.reduceEq, Nat.reduceLeDiff, Nat.reduceMul, Nat.reduceLT, *]
    | simp (singlePass := true) (maxDischargeDepth := 99) only [*, S2, Nat.reduceLT])
end
end Go.Proofs.YteeaccnklkcchaaDoor
