/- The layer order: Rank, Nth. -/
import Derived.Test.YteeaccnklkcchaaDoorLines10
import Derived.Test.YteeaccnklkcchaaDoorRelE
import Derived.Test.YteeaccnklkcchaaDoorRelTW
import Derived.Test.YteeaccnklkcchaaDoorRelT
namespace Go.Proofs.YteeaccnklkcchaaDoor
set_option linter.unusedSimpArgs false
set_option linter.unusedVariables false
open Go Go.RowKit
set_option maxRecDepth 100000
set_option linter.unusedSectionVars false
set_option maxHeartbeats 2000000
/-- How many lines go on by an earlier element. -/
def lessS (ds : List Nat) (s x : Nat) : Nat := ((lst (rdyF s 0 ds &&& (2 ^ x - 1))).map fun i => wayS ds (s ||| 2 ^ i)).sum
def rankS (ds : List Nat) : Nat → List Int → Option Nat
  | _, [] => some 0
  | s, x :: r => if x < 0 ∨ (ds.length : Int) ≤ x ∨ (rdyF s 0 ds).testBit x.toNat = false then none
    else (rankS ds (s ||| 2 ^ x.toNat) r).map (lessS ds s x.toNat + ·)
def rankE (e : Int) (ds : List Nat) (line : List Int) : Nat × Int := if e = 0 then (if line.length = ds.length then (match rankS ds 0 line with | some r => (r, 0) | none => (0, 13)) else (0, 13)) else (0, e)
section
variable {w w' : World} {B b : Nat} {nv vd va v : Value} {ds al : List Nat} {s : Nat}
variable {vs : List Value} {after : List (List Int)}
theorem way_sum {L : List Nat} (h12 : ds.length ≤ 12) (hL : L.length ≤ 12) (s : Nat) : (L.map fun i => wayS ds (s ||| 2 ^ i)).sum ≤ 106993205379072 := by
  have := sum_le (c := 12) (M := 8916100448256) (l := L.map fun i => wayS ds (s ||| 2 ^ i)) (fun x hx => by obtain ⟨i, _, rfl⟩ := List.mem_map.1 hx; exact wayS_le h12 _) (by rw [List.length_map]; exact hL)
  omega
theorem orderRank {lv : Value} {line : List Int} (hT : TabW w) (hB : B ≤ w.heap.size) (hv : LLR w B v vs after) (hl : Sl w B none 1 lv (line.map intV)) : Ret Tryd.prog 19 #[v, lv] w (.tuple #[natV (rankE (ofS after).1 (ofS after).2.1 line).1, intV (rankE (ofS after).1 (ofS after).2.1 line).2]) := by
  have hL1 := hl.k hB
  have hL2 := fun w' (h : Bl B w w') => hl.bl h
  have hlmax : line.length ≤ 9223372036854775807 := by simpa using hl.maxLen
  replace hL2 : Hid _ := hL2
  clear hl
  have hn : Now w := trivial
  have hx : Ext w w := Ext.refl w
  have hT' := fun w' (h : Ext w w') => hT.ext h
  have hV := fun w' (h : Bl B w w') => hv.blz h
  have hbw : Bl B w w := Bl.refl hB
  have hok : (ofS after).1 = 0 → Hid (after.length ≤ 12 ∧ (ofS after).2.1.length = after.length ∧ (ofS after).2.2.length = after.length ∧ (∀ x, (ofS after).2.1.getD x 0 < 4096) ∧ ∀ x, (ofS after).2.2.getD x 0 < 4096) := fun h => by
    obtain ⟨h1, _, h3, _, h5, _, _, _, h9, h10⟩ := ord_ok h
    exact ⟨h1, h3, h5, h9, h10⟩
  replace hV : Hid _ := hV
  have hof := fun w' (h1 : Bl B w w') (h2 : Ext w w') (h3 : B ≤ w'.heap.size) => orderOf (hT' w' h2) h3 (hV.out w' h1)
  unfold OfR at hof
  replace hof : Hid _ := hof
  generalize ofS after = S at *
  obtain ⟨e, ds, al⟩ := S
  simp only at hok hof ⊢
  (refine callsV_of Tryd.func19 rfl KR KR ?_; rw [Tryd.results19])
  (repeat' first
    | ((with_reducible refine at_row ?_); refine row1_a fun _ _ _ _ _ _ _ => ?_)
    | with_reducible first | (first | apply alloc_k | apply row_k); intro _ _ _ _ _ _ | (first | apply fork | apply forkp) <;> intro _ | refine forke (fun _ => ?_) fun _ _ => ?_ | refine tail_k fun _ _ _ => ?_ | refine ext_k fun _ _ _ => ?_ | refine need_a ?_ | refine st_agg KR rfl ON fun _ _ _ _ => ?_ | refine wpd_q_a ?_
    | simp (maxDischargeDepth := 3) only [↓X, ↓Y, ↓Q, S1, ↓reduceIte, Nat.reduceEqDiff, Nat.reduceAdd, Int.reduceLT, Int.reduceLE, Int.reduceNeg, Int.reduceBEq, Int.reduceBNe, Int.reduceEq, Nat.reduceLeDiff, Nat.reduceMul, Nat.reduceLT, *]
    | simp (singlePass := true) (maxDischargeDepth := 99) only [*, S2, Nat.reduceLT])
  refine call_k (hof.out _ FR FR FR) ?_
  rintro _ w1 n1 s1 ⟨nv, vd, va, rfl, hone, hrow⟩
  obtain ⟨o1, o2, o3⟩ := hone
  by_cases h0 : e = 0
  rotate_left
  · have e1 : (e == 0) = false := by simpa using h0
    have e2 : (e != 0) = true := by simpa using h0
    clear hok hrow
    (repeat' first
    | ((with_reducible refine at_row ?_); refine row1_a fun _ _ _ _ _ _ _ => ?_)
    | with_reducible first | (first | apply alloc_k | apply row_k); intro _ _ _ _ _ _ | (first | apply fork | apply forkp) <;> intro _ | refine forke (fun _ => ?_) fun _ _ => ?_ | refine tail_k fun _ _ _ => ?_ | refine ext_k fun _ _ _ => ?_ | refine need_a ?_ | refine st_agg KR rfl ON fun _ _ _ _ => ?_ | refine wpd_q_a ?_
    | simp (maxDischargeDepth := 3) only [↓X, ↓Y, ↓Q, S1, ↓reduceIte, Nat.reduceEqDiff, Nat.reduceAdd, Int.reduceLT, Int.reduceLE, Int.reduceNeg, Int.reduceBEq, Int.reduceBNe, Int.reduceEq, Nat.reduceLeDiff, Nat.reduceMul, Nat.reduceLT, *]
    | simp (singlePass := true) (maxDischargeDepth := 99) only [*, S2, Nat.reduceLT])
    rw [rankE, if_neg h0]
    rfl
  subst h0
  obtain ⟨h12, hdn, han, hdl, hbl⟩ := (hok rfl).out
  obtain ⟨rfl, hvd, hva⟩ := hrow rfl
  have KD := hvd.k (Nat.le_refl _)
  have KA := hva.k (Nat.le_refl _)
  have hpow := two_pow_le h12
  clear hok hrow
  rw [rankE, if_pos rfl, hdn]
  have hD := fun w' (h : Bl w1.heap.size w1 w') => hvd.bl h
  replace hD : Hid _ := hD
  have b1 : Bl w1.heap.size w1 w1 := Bl.refl (Nat.le_refl _)
  have hw2 := (hT' w1 FR).two
  have h12d : ds.length ≤ 12 := by omega
  have hpowd := two_pow_le h12d
  have h0d := Nat.pow_pos (n := ds.length) (show 0 < 2 by decide)
  have hdm : ∀ d ∈ ds, d < 4096 := fun d hd => by obtain ⟨i, hi, rfl⟩ := List.getElem_of_mem hd; rw [getN hi]; exact hdl i
  replace hdm : Hid _ := hdm
  replace hdl : Hid _ := hdl
  by_cases hlen : line.length = after.length
  rotate_left
  · rw [if_neg hlen]
    have hlen' : ¬ ((line.length : Int) = (after.length : Int)) := by omega
    (repeat' first
    | ((with_reducible refine at_row ?_); refine row1_a fun _ _ _ _ _ _ _ => ?_)
    | with_reducible first | (first | apply alloc_k | apply row_k); intro _ _ _ _ _ _ | (first | apply fork | apply forkp) <;> intro _ | refine forke (fun _ => ?_) fun _ _ => ?_ | refine tail_k fun _ _ _ => ?_ | refine ext_k fun _ _ _ => ?_ | refine need_a ?_ | refine st_agg KR rfl ON fun _ _ _ _ => ?_ | refine wpd_q_a ?_
    | simp (maxDischargeDepth := 3) only [↓X, ↓Y, ↓Q, S1, ↓reduceIte, Nat.reduceEqDiff, Nat.reduceAdd, Int.reduceLT, Int.reduceLE, Int.reduceNeg, Int.reduceBEq, Int.reduceBNe, Int.reduceEq, Nat.reduceLeDiff, Nat.reduceMul, Nat.reduceLT, *]
    | simp (singlePass := true) (maxDischargeDepth := 99) only [*, S2, Nat.reduceLT])
    contradiction
  rw [if_pos hlen]
  (repeat' first
    | ((with_reducible refine at_row ?_); refine row1_a fun _ _ _ _ _ _ _ => ?_)
    | with_reducible first | (first | apply alloc_k | apply row_k); intro _ _ _ _ _ _ | (first | apply fork | apply forkp) <;> intro _ | refine forke (fun _ => ?_) fun _ _ => ?_ | refine tail_k fun _ _ _ => ?_ | refine ext_k fun _ _ _ => ?_ | refine need_a ?_ | refine st_agg KR rfl ON fun _ _ _ _ => ?_ | refine wpd_q_a ?_
    | simp (maxDischargeDepth := 3) only [↓X, ↓Y, ↓Q, S1, ↓reduceIte, Nat.reduceEqDiff, Nat.reduceAdd, Int.reduceLT, Int.reduceLE, Int.reduceNeg, Int.reduceBEq, Int.reduceBNe, Int.reduceEq, Nat.reduceLeDiff, Nat.reduceMul, Nat.reduceLT, *]
    | simp (singlePass := true) (maxDischargeDepth := 99) only [*, S2, Nat.reduceLT])
  rename_i b6 w6a n6a k6a s6a q6a w6 n6 k6 s6
  refine call_k (orderWays (B := w1.heap.size) hdn (hT' _ FR) FR hw2 h12d (hD.out _ FR) o2 o3) ?_
  rintro _ w5 n5 s5 ⟨bm, q1, q2, q3, rfl, hW, hbm⟩
  have hcal : callable Tryd.prog 68 = true := by kernel_rfl
  have hwb : w.heap.size ≤ bm := Nat.le_trans FR hbm
  have hBm : B ≤ bm := by omega
  have hb6 : ¬ b6 = bm := fun e => by have := k6.2.2.2.1; omega
  have hdn' : Hid (ds.length = after.length) := hdn
  have hlen12 : line.length ≤ 12 := by omega
  clear hdn
  have h1m : w1.heap.size ≤ bm := hW.hm
  have hml : bm < w5.heap.size := hW.g.lt
  have hWx := fun w' (h : Cg bm w5 w') (g : Gd bm ds w') => hW.go ⟨h, fun _ => g⟩
  replace hWx : Hid _ := hWx
  have I0 : Hid (Gd bm ds w5 ∧ 0 < 2 ^ ds.length ∧ 0 ≤ 0 * 106993205379072 ∧ (rankS ds 0 (line.drop 0)).map (0 + ·) = rankS ds 0 line) := ⟨hW.g, h0d, Nat.zero_le _, by rw [List.drop_zero]; cases rankS ds 0 line <;> simp⟩
  have hlen' : Hid (line.length = after.length) := hlen
  clear hW hvd hva
  (repeat' first
    | ((with_reducible refine at_row ?_); refine row1_a fun _ _ _ _ _ _ _ => ?_)
    | with_reducible first | (first | apply alloc_k | apply row_k); intro _ _ _ _ _ _ | (first | apply fork | apply forkp) <;> intro _ | refine forke (fun _ => ?_) fun _ _ => ?_ | refine tail_k fun _ _ _ => ?_ | refine ext_k fun _ _ _ => ?_ | refine need_a ?_ | refine st_agg KR rfl ON fun _ _ _ _ => ?_ | refine wpd_q_a ?_
    | simp (maxDischargeDepth := 3) only [↓X, ↓Y, ↓Q, S1, ↓reduceIte, Nat.reduceEqDiff, Nat.reduceAdd, Int.reduceLT, Int.reduceLE, Int.reduceNeg, Int.reduceBEq, Int.reduceBNe, Int.reduceEq, Nat.reduceLeDiff, Nat.reduceMul, Nat.reduceLT, *]
    | simp (singlePass := true) (maxDischargeDepth := 99) only [*, S2, Nat.reduceLT])
  clear hlen
  refine loop_b bm after.length (fun g0 k g w' => g 35 = .int .i64 k ∧ (g 6 = g0 6 ∧ g 8 = g0 8 ∧ g 33 = g0 33 ∧ g 34 = g0 34) ∧ ∃ r s : Nat, g 9 = .int .i64 r ∧ g 10 = .int .i64 s ∧ Hid (Gd bm ds w' ∧ s < 2 ^ ds.length ∧ r ≤ k * 106993205379072 ∧ (rankS ds s (line.drop k)).map (r + ·) = rankS ds 0 line)) KR (by omega) hml ?_ ?_ ?_
  · (repeat' first
    | ((with_reducible refine at_row ?_); refine row1_a fun _ _ _ _ _ _ _ => ?_)
    | with_reducible first | (first | apply alloc_k | apply row_k); intro _ _ _ _ _ _ | (first | apply fork | apply forkp) <;> intro _ | refine forke (fun _ => ?_) fun _ _ => ?_ | refine tail_k fun _ _ _ => ?_ | refine ext_k fun _ _ _ => ?_ | refine need_a ?_ | refine st_agg KR rfl ON fun _ _ _ _ => ?_ | refine wpd_q_a ?_
    | simp (maxDischargeDepth := 3) only [↓X, ↓Y, ↓Q, S1, ↓reduceIte, Nat.reduceEqDiff, Nat.reduceAdd, Int.reduceLT, Int.reduceLE, Int.reduceNeg, Int.reduceBEq, Int.reduceBNe, Int.reduceEq, Nat.reduceLeDiff, Nat.reduceMul, Nat.reduceLT, *]
    | simp (singlePass := true) (maxDischargeDepth := 99) only [*, S2, Nat.reduceLT])
    exact ⟨0, 0, rfl, rfl, I0.out⟩
  · rintro k m g wk hk hlt nk sk ck hbk hw ⟨hi, hf, r, s, h9, h10, hp⟩
    simp (maxDischargeDepth := 3) only [U, ↓reduceIte, Nat.reduceEqDiff, *] at hf
    obtain ⟨hg, hs, hr, hrk⟩ := hp.out
    have hck : Cg bm w5 wk := FR
    have hWk := hWx.out wk hck hg
    have hlt2 : k < line.length := by have := hlen'.out; omega
    rw [List.drop_eq_getElem_cons hlt2, rankS] at hrk
    have rk := Ext.refl wk
    have hrl := rdyF_lt s ds 0
    rw [Nat.zero_add] at hrl
    have hdn := hdn'.out
    have hs4 : s < 4096 := by omega
    have hrdy := orderReady (nv := natV after.length) (va := va) hWk.hB hWk.hd hdm.out h12d hs4
    have hT6 := hWk.t
    have ckk : Cg bm wk wk := Chg.refl' wk bm
    have hlk := List.getElem_mem hlt2
    generalize hxe : line[k] = x at *
    have hwx := fun w' (h : Cg bm wk w') (g : Gd bm ds w') => hWk.go ⟨h, fun _ => g⟩
    replace hwx : Hid _ := hwx
    by_cases hbad : x < 0 ∨ (ds.length : Int) ≤ x ∨ (rdyF s 0 ds).testBit x.toNat = false
    · rw [if_pos hbad] at hrk
      have hres : rankS ds 0 line = none := by rw [← hrk]; rfl
      rw [hres]
      rw [hdn] at hbad
      clear hrk hp hdn
      rcases (by omega : x < 0 ∨ (0 ≤ x ∧ (after.length : Int) ≤ x) ∨ (0 ≤ x ∧ x < after.length)) with h1 | ⟨h1, h2⟩ | ⟨h1, h2⟩
      · (repeat' first
    | ((with_reducible refine at_row ?_); refine row1_a fun _ _ _ _ _ _ _ => ?_)
    | with_reducible first | (first | apply alloc_k | apply row_k); intro _ _ _ _ _ _ | (first | apply fork | apply forkp) <;> intro _ | refine forke (fun _ => ?_) fun _ _ => ?_ | refine tail_k fun _ _ _ => ?_ | refine ext_k fun _ _ _ => ?_ | refine need_a ?_ | refine st_agg KR rfl ON fun _ _ _ _ => ?_ | refine wpd_q_a ?_
    | ((with_reducible refine at_f 53 ?_); refine ret_k (hrdy) fun _ _ _ => ?_)
    | simp (maxDischargeDepth := 3) only [↓X, ↓Y, ↓Q, S1, ↓reduceIte, Nat.reduceEqDiff, Nat.reduceAdd, Int.reduceLT, Int.reduceLE, Int.reduceNeg, Int.reduceBEq, Int.reduceBNe, Int.reduceEq, Nat.reduceLeDiff, Nat.reduceMul, Nat.reduceLT, *, hxe]
    | simp (singlePass := true) (maxDischargeDepth := 99) only [*, S2, Nat.reduceLT, hxe])
        done
      · have h3 : ¬ (x < 0) := by omega
        (repeat' first
    | ((with_reducible refine at_row ?_); refine row1_a fun _ _ _ _ _ _ _ => ?_)
    | with_reducible first | (first | apply alloc_k | apply row_k); intro _ _ _ _ _ _ | (first | apply fork | apply forkp) <;> intro _ | refine forke (fun _ => ?_) fun _ _ => ?_ | refine tail_k fun _ _ _ => ?_ | refine ext_k fun _ _ _ => ?_ | refine need_a ?_ | refine st_agg KR rfl ON fun _ _ _ _ => ?_ | refine wpd_q_a ?_
    | ((with_reducible refine at_f 53 ?_); refine ret_k (hrdy) fun _ _ _ => ?_)
    | simp (maxDischargeDepth := 3) only [↓X, ↓Y, ↓Q, S1, ↓reduceIte, Nat.reduceEqDiff, Nat.reduceAdd, Int.reduceLT, Int.reduceLE, Int.reduceNeg, Int.reduceBEq, Int.reduceBNe, Int.reduceEq, Nat.reduceLeDiff, Nat.reduceMul, Nat.reduceLT, *, hxe]
    | simp (singlePass := true) (maxDischargeDepth := 99) only [*, S2, Nat.reduceLT, hxe])
        done
      · have h3 : ¬ (x < 0) := by omega
        have h4 : ¬ ((after.length : Int) ≤ x) := by omega
        obtain ⟨y, rfl⟩ : ∃ y : Nat, x = y := ⟨x.toNat, by omega⟩
        have hbit : (rdyF s 0 ds).testBit y = false := by
          rcases hbad with h | h | h
          · omega
          · omega
          · simpa using h
        have e1 := bit_eq0 (a := rdyF s 0 ds) (k := y) (by omega) (by omega)
        rw [hbit] at e1
        (repeat' first
    | ((with_reducible refine at_row ?_); refine row1_a fun _ _ _ _ _ _ _ => ?_)
    | with_reducible first | (first | apply alloc_k | apply row_k); intro _ _ _ _ _ _ | (first | apply fork | apply forkp) <;> intro _ | refine forke (fun _ => ?_) fun _ _ => ?_ | refine tail_k fun _ _ _ => ?_ | refine ext_k fun _ _ _ => ?_ | refine need_a ?_ | refine st_agg KR rfl ON fun _ _ _ _ => ?_ | refine wpd_q_a ?_
    | ((with_reducible refine at_f 53 ?_); refine ret_k (hrdy) fun _ _ _ => ?_)
    | simp (maxDischargeDepth := 3) only [↓X, ↓Y, ↓Q, S1, ↓reduceIte, Nat.reduceEqDiff, Nat.reduceAdd, Int.reduceLT, Int.reduceLE, Int.reduceNeg, Int.reduceBEq, Int.reduceBNe, Int.reduceEq, Nat.reduceLeDiff, Nat.reduceMul, Nat.reduceLT, *, hxe]
    | simp (singlePass := true) (maxDischargeDepth := 99) only [*, S2, Nat.reduceLT, hxe])
        done
    · rw [if_neg hbad] at hrk
      obtain ⟨y, rfl⟩ : ∃ y : Nat, x = y := ⟨x.toNat, by omega⟩
      rw [hdn] at hbad
      have h3 : ¬ ((y : Int) < 0) := by omega
      have h4 : ¬ ((after.length : Int) ≤ y) := by omega
      have hbit : (rdyF s 0 ds).testBit y = true := by
        cases h : (rdyF s 0 ds).testBit y
        · exact absurd (.inr (.inr (by simpa using h))) hbad
        · rfl
      have e1 := bit_eq0 (a := rdyF s 0 ds) (k := y) (by omega) (by omega)
      rw [hbit] at e1
      rw [Int.toNat_natCast] at hrk
      have hy12 : y < 12 := by omega
      have hR4 : rdyF s 0 ds < 4096 := by omega
      have e2 := shlI_nat (k := y) (by omega)
      have hw1 : IntKind.i64.wrap (((2 ^ y : Nat) : Int) - 1) = ((2 ^ y - 1 : Nat) : Int) := by
        have h2 := Nat.pow_pos (n := y) (show 0 < 2 by decide)
        have h4 := two_pow_le (k := y) (by omega)
        rw [show ((2 ^ y : Nat) : Int) - 1 = ((2 ^ y - 1 : Nat) : Int) by omega, wrap_nat (by omega)]
      have e3 := andI_nat (a := rdyF s 0 ds) (b := 2 ^ y - 1) (by omega) (by have h4 := two_pow_le (k := y) (by omega); omega)
      have hland : rdyF s 0 ds &&& (2 ^ y - 1) < 4096 := Nat.lt_of_le_of_lt Nat.and_le_left hR4
      have hL := lst_len12 (rdyF s 0 ds &&& (2 ^ y - 1))
      have hLs := way_sum (L := lst (rdyF s 0 ds &&& (2 ^ y - 1))) h12d hL s
      have hless : Hid (lessS ds s y = ((lst (rdyF s 0 ds &&& (2 ^ y - 1))).map fun i => wayS ds (s ||| 2 ^ i)).sum) := rfl
      have hrm : Hid (∀ i, i ∈ lst (rdyF s 0 ds &&& (2 ^ y - 1)) → i < ds.length) := fun i hi => by
        have h1 := (mem_lst' hland).1 hi
        rw [Nat.testBit_and, Bool.and_eq_true] at h1
        have := rdyF_has s ds 0 i h1.1
        omega
      have hory := or_lt hs (show y < ds.length by omega)
      have e4 := orI_nat (a := s) (b := 2 ^ y) (by omega) (by have h4 := two_pow_le (k := y) (by omega); omega)
      clear hdn hbad
      (repeat' first
    | ((with_reducible refine at_row ?_); refine row1_a fun _ _ _ _ _ _ _ => ?_)
    | with_reducible first | (first | apply alloc_k | apply row_k); intro _ _ _ _ _ _ | (first | apply fork | apply forkp) <;> intro _ | refine forke (fun _ => ?_) fun _ _ => ?_ | refine tail_k fun _ _ _ => ?_ | refine ext_k fun _ _ _ => ?_ | refine need_a ?_ | refine st_agg KR rfl ON fun _ _ _ _ => ?_ | refine wpd_q_a ?_
    | ((with_reducible refine at_f 53 ?_); refine ret_k (hrdy) fun _ _ _ => ?_)
    | simp (maxDischargeDepth := 3) only [↓X, ↓Y, ↓Q, S1, ↓reduceIte, Nat.reduceEqDiff, Nat.reduceAdd, Int.reduceLT, Int.reduceLE, Int.reduceNeg, Int.reduceBEq, Int.reduceBNe, Int.reduceEq, Nat.reduceLeDiff, Nat.reduceMul, Nat.reduceLT, *, hxe]
    | simp (singlePass := true) (maxDischargeDepth := 99) only [*, S2, Nat.reduceLT, hxe])
      rename_i wA nA sA
      have hxA : Ext wk wA := FR
      refine call_k (orderList (s := rdyF s 0 ds &&& (2 ^ y - 1)) (hT6.ext hxA) hland) ?_
      intro u w7 n7 s7 hu
      have hbl : bm < wA.heap.size := FR
      have hfu := hu.far hbl
      have KU := (hu.sl1 (f := natV)).v (Nat.le_refl _)
      have hb7 : bm < w7.heap.size := FR
      have hx7 : Ext wk w7 := FR
      have hg7 : Hid (Gd bm ds w7) := (hWk.ext hx7).g
      generalize hLL : lst (rdyF s 0 ds &&& (2 ^ y - 1)) = L at *
      generalize hLE : lessS ds s y = less at *
      have hg' : Hid (Gd bm ds wk) := hg
      replace hrk : Hid _ := hrk
      clear hu hLL hLE hp hg hrdy hT6 hWk e1 e3 hR4 hland
      (repeat' first
    | ((with_reducible refine at_row ?_); refine row1_a fun _ _ _ _ _ _ _ => ?_)
    | with_reducible first | (first | apply alloc_k | apply row_k); intro _ _ _ _ _ _ | (first | apply fork | apply forkp) <;> intro _ | refine forke (fun _ => ?_) fun _ _ => ?_ | refine tail_k fun _ _ _ => ?_ | refine ext_k fun _ _ _ => ?_ | refine need_a ?_ | refine st_agg KR rfl ON fun _ _ _ _ => ?_ | refine wpd_q_a ?_
    | simp (maxDischargeDepth := 3) only [↓X, ↓Y, ↓Q, S1, ↓reduceIte, Nat.reduceEqDiff, Nat.reduceAdd, Int.reduceLT, Int.reduceLE, Int.reduceNeg, Int.reduceBEq, Int.reduceBNe, Int.reduceEq, Nat.reduceLeDiff, Nat.reduceMul, Nat.reduceLT, *]
    | simp (singlePass := true) (maxDischargeDepth := 99) only [*, S2, Nat.reduceLT])
      refine loop_b bm L.length (fun g0 j g w' => g 64 = .int .i64 j ∧ (g 6 = g0 6 ∧ g 8 = g0 8 ∧ g 10 = g0 10 ∧ g 12 = g0 12 ∧ g 33 = g0 33 ∧ g 34 = g0 34 ∧ g 35 = g0 35 ∧ g 62 = g0 62 ∧ g 63 = g0 63) ∧ g 9 = .int .i64 ((r + ((L.map fun i => wayS ds (s ||| 2 ^ i)).take j).sum : Nat) : Int) ∧ Hid (Gd bm ds w')) KR (by omega) hb7 ?_ ?_ ?_
      · (repeat' first
    | ((with_reducible refine at_row ?_); refine row1_a fun _ _ _ _ _ _ _ => ?_)
    | with_reducible first | (first | apply alloc_k | apply row_k); intro _ _ _ _ _ _ | (first | apply fork | apply forkp) <;> intro _ | refine forke (fun _ => ?_) fun _ _ => ?_ | refine tail_k fun _ _ _ => ?_ | refine ext_k fun _ _ _ => ?_ | refine need_a ?_ | refine st_agg KR rfl ON fun _ _ _ _ => ?_ | refine wpd_q_a ?_
    | simp (maxDischargeDepth := 3) only [↓X, ↓Y, ↓Q, S1, ↓reduceIte, Nat.reduceEqDiff, Nat.reduceAdd, Int.reduceLT, Int.reduceLE, Int.reduceNeg, Int.reduceBEq, Int.reduceBNe, Int.reduceEq, Nat.reduceLeDiff, Nat.reduceMul, Nat.reduceLT, *]
    | simp (singlePass := true) (maxDischargeDepth := 99) only [*, S2, Nat.reduceLT])
        all_goals first | exact hg7.out | simp
      · rintro j m2 g2 w2 hk2 hlt2 n2 s2 c2 hb2 hw2 ⟨hi2, hf2, h92, hp2⟩
        simp (maxDischargeDepth := 3) only [U, ↓reduceIte, Nat.reduceEqDiff, *] at hf2
        have hck2 : Cg bm wk w2 := FR
        have hW2 := hwx.out w2 hck2 hp2.out
        have hi1 := hrm.out _ (List.getElem_mem hlt2)
        generalize hie : L[j] = i at *
        have e5 := shlI_nat (k := i) (by omega)
        have h2i := two_pow_le (k := i) (by omega)
        have hor := or_lt hs hi1
        have e6 := orI_nat (a := s) (b := 2 ^ i) (by omega) (by omega)
        have hkm : j < (L.map fun i => wayS ds (s ||| 2 ^ i)).length := by rw [List.length_map]; exact hlt2
        have htk : ((L.map fun i => wayS ds (s ||| 2 ^ i)).take (j + 1)).sum = ((L.map fun i => wayS ds (s ||| 2 ^ i)).take j).sum + wayS ds (s ||| 2 ^ i) := by
          rw [appLL_take hkm, List.sum_append, List.getElem_map, hie]; simp
        have htl := sum_take (l := L.map fun i => wayS ds (s ||| 2 ^ i)) (j + 1)
        have hr12 : k * 106993205379072 ≤ 12 * 106993205379072 := Nat.mul_le_mul_right _ (by omega)
        have hw9 : IntKind.i64.wrap (((r + ((L.map fun i => wayS ds (s ||| 2 ^ i)).take j).sum : Nat) : Int) + (wayS ds (s ||| 2 ^ i) : Nat)) = ((r + ((L.map fun i => wayS ds (s ||| 2 ^ i)).take (j + 1)).sum : Nat) : Int) := by
          rw [wrap_i64_id] <;> omega
        replace htk : Hid _ := htk
        generalize ht1 : ((L.map fun i => wayS ds (s ||| 2 ^ i)).take (j + 1)).sum = tot1 at *
        replace ht1 : Hid _ := ht1
        generalize ((L.map fun i => wayS ds (s ||| 2 ^ i)).take j).sum = tot at *
        clear hp2 htl
        (repeat' first
    | ((with_reducible refine at_row ?_); refine row1_a fun _ _ _ _ _ _ _ => ?_)
    | with_reducible first | (first | apply alloc_k | apply row_k); intro _ _ _ _ _ _ | (first | apply fork | apply forkp) <;> intro _ | refine forke (fun _ => ?_) fun _ _ => ?_ | refine tail_k fun _ _ _ => ?_ | refine ext_k fun _ _ _ => ?_ | refine need_a ?_ | refine st_agg KR rfl ON fun _ _ _ _ => ?_ | refine wpd_q_a ?_
    | simp (maxDischargeDepth := 3) only [↓X, ↓Y, ↓Q, S1, ↓reduceIte, Nat.reduceEqDiff, Nat.reduceAdd, Int.reduceLT, Int.reduceLE, Int.reduceNeg, Int.reduceBEq, Int.reduceBNe, Int.reduceEq, Nat.reduceLeDiff, Nat.reduceMul, Nat.reduceLT, *, hie, wayV]
    | simp (singlePass := true) (maxDischargeDepth := 99) only [*, S2, Nat.reduceLT, hie, wayV])
        refine way_k (s := s ||| 2 ^ i) h12d hdl.out hW2 hor fun w6 n6 s6 hE => ?_
        have hg6 : Hid (Gd bm ds w6) := hE.2 hW2.g
        have hcE : Cg bm w2 w6 := hE.1
        clear hE
        (repeat' first
    | ((with_reducible refine at_row ?_); refine row1_a fun _ _ _ _ _ _ _ => ?_)
    | with_reducible first | (first | apply alloc_k | apply row_k); intro _ _ _ _ _ _ | (first | apply fork | apply forkp) <;> intro _ | refine forke (fun _ => ?_) fun _ _ => ?_ | refine tail_k fun _ _ _ => ?_ | refine ext_k fun _ _ _ => ?_ | refine need_a ?_ | refine st_agg KR rfl ON fun _ _ _ _ => ?_ | refine wpd_q_a ?_
    | simp (maxDischargeDepth := 3) only [↓X, ↓Y, ↓Q, S1, ↓reduceIte, Nat.reduceEqDiff, Nat.reduceAdd, Int.reduceLT, Int.reduceLE, Int.reduceNeg, Int.reduceBEq, Int.reduceBNe, Int.reduceEq, Nat.reduceLeDiff, Nat.reduceMul, Nat.reduceLT, *, hw9]
    | simp (singlePass := true) (maxDischargeDepth := 99) only [*, S2, Nat.reduceLT, hw9])
        refine next_b hk2 hlt2 ?_ FR
        (repeat' first
    | ((with_reducible refine at_row ?_); refine row1_a fun _ _ _ _ _ _ _ => ?_)
    | with_reducible first | (first | apply alloc_k | apply row_k); intro _ _ _ _ _ _ | (first | apply fork | apply forkp) <;> intro _ | refine forke (fun _ => ?_) fun _ _ => ?_ | refine tail_k fun _ _ _ => ?_ | refine ext_k fun _ _ _ => ?_ | refine need_a ?_ | refine st_agg KR rfl ON fun _ _ _ _ => ?_ | refine wpd_q_a ?_
    | simp (maxDischargeDepth := 3) only [↓X, ↓Y, ↓Q, S1, ↓reduceIte, Nat.reduceEqDiff, Nat.reduceAdd, Int.reduceLT, Int.reduceLE, Int.reduceNeg, Int.reduceBEq, Int.reduceBNe, Int.reduceEq, Nat.reduceLeDiff, Nat.reduceMul, Nat.reduceLT, *]
    | simp (singlePass := true) (maxDischargeDepth := 99) only [*, S2, Nat.reduceLT])
        rw [ht1.out]
        exact ⟨rfl, rfl⟩
      · rintro g2 w2 n2 s2 c2 hb2 ⟨hi2, hf2, h92, hp2⟩
        simp (maxDischargeDepth := 3) only [U, ↓reduceIte, Nat.reduceEqDiff, *] at hf2
        have hck2 : Cg bm wk w2 := FR
        have hlen2 : (L.map fun i => wayS ds (s ||| 2 ^ i)).length = L.length := List.length_map _
        rw [← hlen2, List.take_length, ← hless.out] at h92
        have hg2 : Hid (Gd bm ds w2) := hp2.out
        have hll : Hid (less ≤ 106993205379072) := by show less ≤ _; rw [hless.out]; exact hLs
        clear hp2
        (repeat' first
    | ((with_reducible refine at_row ?_); refine row1_a fun _ _ _ _ _ _ _ => ?_)
    | with_reducible first | (first | apply alloc_k | apply row_k); intro _ _ _ _ _ _ | (first | apply fork | apply forkp) <;> intro _ | refine forke (fun _ => ?_) fun _ _ => ?_ | refine tail_k fun _ _ _ => ?_ | refine ext_k fun _ _ _ => ?_ | refine need_a ?_ | refine st_agg KR rfl ON fun _ _ _ _ => ?_ | refine wpd_q_a ?_
    | simp (maxDischargeDepth := 3) only [↓X, ↓Y, ↓Q, S1, ↓reduceIte, Nat.reduceEqDiff, Nat.reduceAdd, Int.reduceLT, Int.reduceLE, Int.reduceNeg, Int.reduceBEq, Int.reduceBNe, Int.reduceEq, Nat.reduceLeDiff, Nat.reduceMul, Nat.reduceLT, *]
    | simp (singlePass := true) (maxDischargeDepth := 99) only [*, S2, Nat.reduceLT])
        refine next_b hk hlt ?_ FR
        (repeat' first
    | ((with_reducible refine at_row ?_); refine row1_a fun _ _ _ _ _ _ _ => ?_)
    | with_reducible first | (first | apply alloc_k | apply row_k); intro _ _ _ _ _ _ | (first | apply fork | apply forkp) <;> intro _ | refine forke (fun _ => ?_) fun _ _ => ?_ | refine tail_k fun _ _ _ => ?_ | refine ext_k fun _ _ _ => ?_ | refine need_a ?_ | refine st_agg KR rfl ON fun _ _ _ _ => ?_ | refine wpd_q_a ?_
    | simp (maxDischargeDepth := 3) only [↓X, ↓Y, ↓Q, S1, ↓reduceIte, Nat.reduceEqDiff, Nat.reduceAdd, Int.reduceLT, Int.reduceLE, Int.reduceNeg, Int.reduceBEq, Int.reduceBNe, Int.reduceEq, Nat.reduceLeDiff, Nat.reduceMul, Nat.reduceLT, *]
    | simp (singlePass := true) (maxDischargeDepth := 99) only [*, S2, Nat.reduceLT])
        refine ⟨_, _, rfl, rfl, hg2.out, hory, ?_, ?_⟩
        · have := hll.out
          rw [Nat.add_mul]; omega
        · rw [← hrk.out, Option.map_map]
          congr 1
          funext z
          simp only [Function.comp_apply]
          omega
  · rintro g wk nk sk ck hbk ⟨hi, hf, r, s, h9, h10, hp⟩
    simp (maxDischargeDepth := 3) only [U, ↓reduceIte, Nat.reduceEqDiff, *] at hf
    obtain ⟨hg, hs, hr, hrk⟩ := hp.out
    rw [← hlen'.out, List.drop_length] at hrk
    have hres : rankS ds 0 line = some r := by rw [← hrk]; simp [rankS]
    rw [hres]
    (repeat' first
    | ((with_reducible refine at_row ?_); refine row1_a fun _ _ _ _ _ _ _ => ?_)
    | with_reducible first | (first | apply alloc_k | apply row_k); intro _ _ _ _ _ _ | (first | apply fork | apply forkp) <;> intro _ | refine forke (fun _ => ?_) fun _ _ => ?_ | refine tail_k fun _ _ _ => ?_ | refine ext_k fun _ _ _ => ?_ | refine need_a ?_ | refine st_agg KR rfl ON fun _ _ _ _ => ?_ | refine wpd_q_a ?_
    | simp (maxDischargeDepth := 3) only [↓X, ↓Y, ↓Q, S1, ↓reduceIte, Nat.reduceEqDiff, Nat.reduceAdd, Int.reduceLT, Int.reduceLE, Int.reduceNeg, Int.reduceBEq, Int.reduceBNe, Int.reduceEq, Nat.reduceLeDiff, Nat.reduceMul, Nat.reduceLT, *]
    | simp (singlePass := true) (maxDischargeDepth := 99) only [*, S2, Nat.reduceLT])
    done
end
end Go.Proofs.YteeaccnklkcchaaDoor
/- The layer order: Nth. -/
namespace Go.Proofs.YteeaccnklkcchaaDoor
set_option linter.unusedSimpArgs false
set_option linter.unusedVariables false
open Go Go.RowKit
set_option maxRecDepth 100000
set_option linter.unusedSectionVars false
set_option maxHeartbeats 2000000
def nthS (ds : List Nat) : Nat → Nat → Nat → List Nat
  | 0, _, _ => []
  | f + 1, s, k => match pickN (fun i => wayS ds (s ||| 2 ^ i)) (lst (rdyF s 0 ds)) k with
    | none => []
    | some (i, k') => i :: nthS ds f (s ||| 2 ^ i) k'
def nthE (e : Int) (ds : List Nat) (k : Int) : List Nat × Int := if e = 0 then (if k < 0 ∨ (wayS ds 0 : Int) ≤ k then ([], 2) else (nthS ds ds.length 0 k.toNat, 0)) else ([], e)
theorem pick_some {c : Nat → Nat} : ∀ {l : List Nat} {k : Nat}, k < (l.map c).sum → ∃ i k', pickN c l k = some (i, k') ∧ i ∈ l ∧ k' < c i ∧ k' ≤ k
  | [], k, h => by simp at h
  | a :: r, k, h => by
    rw [pickN]
    rw [List.map_cons, List.sum_cons] at h
    by_cases hc : k < c a
    · exact ⟨a, k, by rw [if_pos hc], List.mem_cons_self .., hc, Nat.le_refl _⟩
    · obtain ⟨i, k', h1, h2, h3, h4⟩ := pick_some (c := c) (l := r) (k := k - c a) (by omega)
      exact ⟨i, k', by rw [if_neg hc]; exact h1, List.mem_cons_of_mem _ h2, h3, by omega⟩
theorem Chg.of_ext {w w' : World} {b : Nat} (h : Ext w w') : Chg w w' b := (Chg.refl' w b).trans_ext h
theorem Chg.tbn {a w w' : World} {b : Nat} {X : Nat → Prop} (h : Chg a w b) (k : TBn X w w') (hX : ∀ c, X c → a.heap.size ≤ c) : Chg a w' b := ⟨k.os.trans h.os, k.tape.trans h.tape, k.output.trans h.output, Nat.le_trans h.size k.size, fun c hc hne => (k.block c (Nat.lt_of_lt_of_le hc h.size) (fun hx => by have := hX c hx; omega)).trans (h.block c hc hne)⟩
theorem appN_both {w : World} {B b cp : Nat} {s : Value} {l : List Nat} (x : Nat) {k : Value → World → Prop} (hown : Own w B 3 1 s (l.map natC)) (hb : Blk w b 3 (natC x)) (hbound : l.length < 1000000000000) (hB : B ≤ w.heap.size)
    (hf : ∀ v' w', full s → Ext w w' → Own w' w.heap.size 3 1 v' ((l ++ [x]).map natC) → k v' w')
    (hr : ∀ g cp w', s = .slice (some ⟨g, 0, none⟩) l.length cp → l.length < cp → Chg w w' g → Own w' B 3 1 (.slice (some ⟨g, 0, none⟩) (l.length + 1) cp) ((l ++ [x]).map natC) → k (.slice (some ⟨g, 0, none⟩) (l.length + 1) cp) w') : appX Tryd.prog 25 25 25 s (.slice (some ⟨b, 0, none⟩) 1 cp) w k :=
  append_both (e := 3) (sz := 1) (by_ := 8) (z := .int .i64 0) (c := natC) x KR KR rfl (by decide) (by decide) hown hb rfl (by simp [natC, intV, one_int]) hbound hB hf hr
section
variable {w w' : World} {B b : Nat} {nv vd va v : Value} {ds al : List Nat} {s : Nat}
variable {vs : List Value} {after : List (List Int)}
/-- One step of the line with a number. -/
theorem nth_step {j s k : Nat} (h12 : ds.length ≤ 12) (hj : j < ds.length) (hc : card s = j) (hs : s < 2 ^ ds.length) (hk : k < wayS ds s) : ∃ i k', pickN (fun i => wayS ds (s ||| 2 ^ i)) (lst (rdyF s 0 ds)) k = some (i, k') ∧ i < ds.length ∧ s.testBit i = false ∧ k' < wayS ds (s ||| 2 ^ i) ∧ k' ≤ k ∧ card (s ||| 2 ^ i) = j + 1 ∧ s ||| 2 ^ i < 2 ^ ds.length ∧ nthS ds (ds.length - j) s k = i :: nthS ds (ds.length - (j + 1)) (s ||| 2 ^ i) k' := by
  have hne : s ≠ 2 ^ ds.length - 1 := fun e => by have := (card_full hs h12).2 e; omega
  rw [wayS_step h12 hs hne] at hk
  obtain ⟨i, k', h1, h2, h3, h4⟩ := pick_some hk
  obtain ⟨h5, h6⟩ := rdy_mem h12 h2
  refine ⟨i, k', h1, h5, h6, h3, h4, by rw [card_or (by omega) h6, hc], or_lt hs h5, ?_⟩
  obtain ⟨f, hf⟩ : ∃ f, ds.length - j = f + 1 := ⟨ds.length - j - 1, by omega⟩
  rw [hf, nthS, h1, show ds.length - (j + 1) = f by omega]
theorem orderNth {x : Int} (hx : -9223372036854775808 ≤ x ∧ x ≤ 9223372036854775807) (hT : TabW w) (hB : B ≤ w.heap.size) (hv : LLR w B v vs after) : CallsV Tryd.prog 18 #[v, intV x] w fun r w' => Ext w w' ∧ ∃ o, r = .tuple #[o, intV (nthE (ofS after).1 (ofS after).2.1 x).2] ∧ Own w' w.heap.size 3 1 o ((nthE (ofS after).1 (ofS after).2.1 x).1.map natC) := by
  have hxr := hx
  clear hx
  have hn : Now w := trivial
  have hx : Ext w w := Ext.refl w
  have hT' := fun w' (h : Ext w w') => hT.ext h
  have hV := fun w' (h : Bl B w w') => hv.blz h
  have hbw : Bl B w w := Bl.refl hB
  have hok : (ofS after).1 = 0 → Hid (after.length ≤ 12 ∧ (ofS after).2.1.length = after.length ∧ (ofS after).2.2.length = after.length ∧ (∀ x, (ofS after).2.1.getD x 0 < 4096) ∧ ∀ x, (ofS after).2.2.getD x 0 < 4096) := fun h => by
    obtain ⟨h1, _, h3, _, h5, _, _, _, h9, h10⟩ := ord_ok h
    exact ⟨h1, h3, h5, h9, h10⟩
  replace hV : Hid _ := hV
  have hof := fun w' (h1 : Bl B w w') (h2 : Ext w w') (h3 : B ≤ w'.heap.size) => orderOf (hT' w' h2) h3 (hV.out w' h1)
  unfold OfR at hof
  replace hof : Hid _ := hof
  generalize ofS after = S at *
  obtain ⟨e, ds, al⟩ := S
  simp only at hok hof ⊢
  (refine callsV_of Tryd.func18 rfl KR KR ?_; rw [Tryd.results18])
  (repeat' first
    | ((with_reducible refine at_row ?_); refine row1_a fun _ _ _ _ _ _ _ => ?_)
    | with_reducible first | (first | apply alloc_k | apply row_k); intro _ _ _ _ _ _ | (first | apply fork | apply forkp) <;> intro _ | refine forke (fun _ => ?_) fun _ _ => ?_ | refine tail_k fun _ _ _ => ?_ | refine ext_k fun _ _ _ => ?_ | refine need_a ?_ | refine st_agg KR rfl ON fun _ _ _ _ => ?_ | refine wpd_q_a ?_
    | simp (maxDischargeDepth := 3) only [↓X, ↓Y, ↓Q, S1, ↓reduceIte, Nat.reduceEqDiff, Nat.reduceAdd, Int.reduceLT, Int.reduceLE, Int.reduceNeg, Int.reduceBEq, Int.reduceBNe, Int.reduceEq, Nat.reduceLeDiff, Nat.reduceMul, Nat.reduceLT, *]
    | simp (singlePass := true) (maxDischargeDepth := 99) only [*, S2, Nat.reduceLT])
  refine call_k (hof.out _ FR FR FR) ?_
  rintro _ w1 n1 s1 ⟨nv, vd, va, rfl, hone, hrow⟩
  obtain ⟨o1, o2, o3⟩ := hone
  by_cases h0 : e = 0
  rotate_left
  · have e1 : (e == 0) = false := by simpa using h0
    have e2 : (e != 0) = true := by simpa using h0
    clear hok hrow
    (repeat' first
    | ((with_reducible refine at_row ?_); refine row1_a fun _ _ _ _ _ _ _ => ?_)
    | with_reducible first | (first | apply alloc_k | apply row_k); intro _ _ _ _ _ _ | (first | apply fork | apply forkp) <;> intro _ | refine forke (fun _ => ?_) fun _ _ => ?_ | refine tail_k fun _ _ _ => ?_ | refine ext_k fun _ _ _ => ?_ | refine need_a ?_ | refine st_agg KR rfl ON fun _ _ _ _ => ?_ | refine wpd_q_a ?_
    | simp (maxDischargeDepth := 3) only [↓X, ↓Y, ↓Q, S1, ↓reduceIte, Nat.reduceEqDiff, Nat.reduceAdd, Int.reduceLT, Int.reduceLE, Int.reduceNeg, Int.reduceBEq, Int.reduceBNe, Int.reduceEq, Nat.reduceLeDiff, Nat.reduceMul, Nat.reduceLT, *]
    | simp (singlePass := true) (maxDischargeDepth := 99) only [*, S2, Nat.reduceLT])
    rw [nthE, if_neg h0]
    exact ⟨_, rfl, Own.nil _ _ _ _⟩
  subst h0
  obtain ⟨h12, hdn, han, hdl, hbl⟩ := (hok rfl).out
  obtain ⟨rfl, hvd, hva⟩ := hrow rfl
  have KD := hvd.k (Nat.le_refl _)
  have KA := hva.k (Nat.le_refl _)
  have hpow := two_pow_le h12
  clear hok hrow
  rw [nthE, if_pos rfl]
  have hD := fun w' (h : Bl w1.heap.size w1 w') => hvd.bl h
  replace hD : Hid _ := hD
  have b1 : Bl w1.heap.size w1 w1 := Bl.refl (Nat.le_refl _)
  have hw2 := (hT' w1 FR).two
  have h12d : ds.length ≤ 12 := by omega
  have hpowd := two_pow_le h12d
  have h0d := Nat.pow_pos (n := ds.length) (show 0 < 2 by decide)
  have hdm : ∀ d ∈ ds, d < 4096 := fun d hd => by obtain ⟨i, hi, rfl⟩ := List.getElem_of_mem hd; rw [getN hi]; exact hdl i
  replace hdm : Hid _ := hdm
  replace hdl : Hid _ := hdl
  (repeat' first
    | ((with_reducible refine at_row ?_); refine row1_a fun _ _ _ _ _ _ _ => ?_)
    | with_reducible first | (first | apply alloc_k | apply row_k); intro _ _ _ _ _ _ | (first | apply fork | apply forkp) <;> intro _ | refine forke (fun _ => ?_) fun _ _ => ?_ | refine tail_k fun _ _ _ => ?_ | refine ext_k fun _ _ _ => ?_ | refine need_a ?_ | refine st_agg KR rfl ON fun _ _ _ _ => ?_ | refine wpd_q_a ?_
    | simp (maxDischargeDepth := 3) only [↓X, ↓Y, ↓Q, S1, ↓reduceIte, Nat.reduceEqDiff, Nat.reduceAdd, Int.reduceLT, Int.reduceLE, Int.reduceNeg, Int.reduceBEq, Int.reduceBNe, Int.reduceEq, Nat.reduceLeDiff, Nat.reduceMul, Nat.reduceLT, *]
    | simp (singlePass := true) (maxDischargeDepth := 99) only [*, S2, Nat.reduceLT])
  rename_i b6 w6a n6a k6a s6a q6a w6 n6 k6 s6
  refine call_k (orderWays (B := w1.heap.size) hdn (hT' _ FR) FR hw2 h12d (hD.out _ FR) o2 o3) ?_
  rintro _ w5 n5 s5 ⟨bm, q1, q2, q3, rfl, hW, hbm⟩
  have hcal : callable Tryd.prog 68 = true := by kernel_rfl
  have hwb : w.heap.size ≤ bm := Nat.le_trans FR hbm
  have hBm : B ≤ bm := by omega
  have hb6 : ¬ b6 = bm := fun e => by have := k6.2.2.2.1; omega
  have hdn' : Hid (ds.length = after.length) := hdn
  have hw0 := wayS_le h12d 0
  have h1m : w1.heap.size ≤ bm := hW.hm
  have hml : bm < w5.heap.size := hW.g.lt
  have hWx := fun w' (h : Cg bm w5 w') (g : Gd bm ds w') => hW.go ⟨h, fun _ => g⟩
  replace hWx : Hid _ := hWx
  clear hvd hva hdn
  have WG : Hid (WayB w5 w1.heap.size bm q1 q2 q3 (natV after.length) vd va ds) := hW
  clear hW
  by_cases hneg : x < 0
  · rw [if_pos (.inl hneg)]
    (repeat' first
    | ((with_reducible refine at_row ?_); refine row1_a fun _ _ _ _ _ _ _ => ?_)
    | with_reducible first | (first | apply alloc_k | apply row_k); intro _ _ _ _ _ _ | (first | apply fork | apply forkp) <;> intro _ | refine forke (fun _ => ?_) fun _ _ => ?_ | refine tail_k fun _ _ _ => ?_ | refine ext_k fun _ _ _ => ?_ | refine need_a ?_ | refine st_agg KR rfl ON fun _ _ _ _ => ?_ | refine wpd_q_a ?_
    | simp (maxDischargeDepth := 3) only [↓X, ↓Y, ↓Q, S1, ↓reduceIte, Nat.reduceEqDiff, Nat.reduceAdd, Int.reduceLT, Int.reduceLE, Int.reduceNeg, Int.reduceBEq, Int.reduceBNe, Int.reduceEq, Nat.reduceLeDiff, Nat.reduceMul, Nat.reduceLT, *]
    | simp (singlePass := true) (maxDischargeDepth := 99) only [*, S2, Nat.reduceLT])
    exact ⟨_, rfl, Own.nil _ _ _ _⟩
  by_cases hbad : (wayS ds 0 : Int) ≤ x
  · rw [if_pos (.inr hbad)]
    (repeat' first
    | ((with_reducible refine at_row ?_); refine row1_a fun _ _ _ _ _ _ _ => ?_)
    | with_reducible first | (first | apply alloc_k | apply row_k); intro _ _ _ _ _ _ | (first | apply fork | apply forkp) <;> intro _ | refine forke (fun _ => ?_) fun _ _ => ?_ | refine tail_k fun _ _ _ => ?_ | refine ext_k fun _ _ _ => ?_ | refine need_a ?_ | refine st_agg KR rfl ON fun _ _ _ _ => ?_ | refine wpd_q_a ?_
    | simp (maxDischargeDepth := 3) only [↓X, ↓Y, ↓Q, S1, ↓reduceIte, Nat.reduceEqDiff, Nat.reduceAdd, Int.reduceLT, Int.reduceLE, Int.reduceNeg, Int.reduceBEq, Int.reduceBNe, Int.reduceEq, Nat.reduceLeDiff, Nat.reduceMul, Nat.reduceLT, *, wayV]
    | simp (singlePass := true) (maxDischargeDepth := 99) only [*, S2, Nat.reduceLT, wayV])
    refine way_k (s := 0) h12d hdl.out WG.out h0d fun w7 n7 s7 hE => ?_
    (repeat' first
    | ((with_reducible refine at_row ?_); refine row1_a fun _ _ _ _ _ _ _ => ?_)
    | with_reducible first | (first | apply alloc_k | apply row_k); intro _ _ _ _ _ _ | (first | apply fork | apply forkp) <;> intro _ | refine forke (fun _ => ?_) fun _ _ => ?_ | refine tail_k fun _ _ _ => ?_ | refine ext_k fun _ _ _ => ?_ | refine need_a ?_ | refine st_agg KR rfl ON fun _ _ _ _ => ?_ | refine wpd_q_a ?_
    | simp (maxDischargeDepth := 3) only [↓X, ↓Y, ↓Q, S1, ↓reduceIte, Nat.reduceEqDiff, Nat.reduceAdd, Int.reduceLT, Int.reduceLE, Int.reduceNeg, Int.reduceBEq, Int.reduceBNe, Int.reduceEq, Nat.reduceLeDiff, Nat.reduceMul, Nat.reduceLT, *]
    | simp (singlePass := true) (maxDischargeDepth := 99) only [*, S2, Nat.reduceLT])
    exact ⟨_, rfl, Own.nil _ _ _ _⟩
  have hnn : ¬ (x < 0 ∨ (wayS ds 0 : Int) ≤ x) := by omega
  rw [if_neg hnn]
  obtain ⟨y, rfl⟩ : ∃ y : Nat, x = y := ⟨x.toNat, by omega⟩
  rw [Int.toNat_natCast]
  have h1 : ¬ (y : Int) < 0 := by omega
  have h2 : ¬ (wayS ds 0 : Int) ≤ (y : Int) := by omega
  have hyw : y < wayS ds 0 := by omega
  clear hbad hneg hnn
  generalize hAll : nthS ds after.length 0 y = All
  have J0 : Hid (nthS ds (ds.length - 0) 0 y = All.drop 0) := by show nthS _ _ _ _ = _; rw [Nat.sub_zero, hdn'.out, hAll]; rfl
  clear hAll
  (repeat' first
    | ((with_reducible refine at_row ?_); refine row1_a fun _ _ _ _ _ _ _ => ?_)
    | with_reducible first | (first | apply alloc_k | apply row_k); intro _ _ _ _ _ _ | (first | apply fork | apply forkp) <;> intro _ | refine forke (fun _ => ?_) fun _ _ => ?_ | refine tail_k fun _ _ _ => ?_ | refine ext_k fun _ _ _ => ?_ | refine need_a ?_ | refine st_agg KR rfl ON fun _ _ _ _ => ?_ | refine wpd_q_a ?_
    | simp (maxDischargeDepth := 3) only [↓X, ↓Y, ↓Q, S1, ↓reduceIte, Nat.reduceEqDiff, Nat.reduceAdd, Int.reduceLT, Int.reduceLE, Int.reduceNeg, Int.reduceBEq, Int.reduceBNe, Int.reduceEq, Nat.reduceLeDiff, Nat.reduceMul, Nat.reduceLT, *, wayV]
    | simp (singlePass := true) (maxDischargeDepth := 99) only [*, S2, Nat.reduceLT, wayV])
  refine way_k (s := 0) h12d hdl.out WG.out h0d fun w7 n7 s7 hE => ?_
  have hc7 : Cg bm w5 w7 := hE.1
  have hg7 := hE.2 WG.out.g
  clear hE
  have I0 : Hid (Gd bm ds w7 ∧ 0 < 2 ^ ds.length ∧ card 0 = 0 ∧ y < wayS ds 0 ∧ nthS ds (ds.length - 0) 0 y = All.drop 0 ∧ All.take 0 = []) := ⟨hg7, h0d, card_zero, hyw, J0.out, rfl⟩
  clear hg7 hyw
  (repeat' first
    | ((with_reducible refine at_row ?_); refine row1_a fun _ _ _ _ _ _ _ => ?_)
    | with_reducible first | (first | apply alloc_k | apply row_k); intro _ _ _ _ _ _ | (first | apply fork | apply forkp) <;> intro _ | refine forke (fun _ => ?_) fun _ _ => ?_ | refine tail_k fun _ _ _ => ?_ | refine ext_k fun _ _ _ => ?_ | refine need_a ?_ | refine st_agg KR rfl ON fun _ _ _ _ => ?_ | refine wpd_q_a ?_
    | simp (maxDischargeDepth := 3) only [↓X, ↓Y, ↓Q, S1, ↓reduceIte, Nat.reduceEqDiff, Nat.reduceAdd, Int.reduceLT, Int.reduceLE, Int.reduceNeg, Int.reduceBEq, Int.reduceBNe, Int.reduceEq, Nat.reduceLeDiff, Nat.reduceMul, Nat.reduceLT, *]
    | simp (singlePass := true) (maxDischargeDepth := 99) only [*, S2, Nat.reduceLT])
  have hml7 : bm < w7.heap.size := FR
  refine loop_b bm after.length (fun g0 k g w' => (g 6 = g0 6 ∧ g 8 = g0 8) ∧ ∃ s y : Nat, g 10 = .int .i64 s ∧ g 1 = .int .i64 y ∧ ∃ o, g 9 = o ∧ Own w' w7.heap.size 3 1 o ((All.take k).map natC) ∧ Hid (Gd bm ds w' ∧ s < 2 ^ ds.length ∧ card s = k ∧ y < wayS ds s ∧ nthS ds (ds.length - k) s y = All.drop k ∧ (All.take k).length = k)) KR (by omega) hml7 ?_ ?_ ?_
  · (repeat' first
    | ((with_reducible refine at_row ?_); refine row1_a fun _ _ _ _ _ _ _ => ?_)
    | with_reducible first | (first | apply alloc_k | apply row_k); intro _ _ _ _ _ _ | (first | apply fork | apply forkp) <;> intro _ | refine forke (fun _ => ?_) fun _ _ => ?_ | refine tail_k fun _ _ _ => ?_ | refine ext_k fun _ _ _ => ?_ | refine need_a ?_ | refine st_agg KR rfl ON fun _ _ _ _ => ?_ | refine wpd_q_a ?_
    | simp (maxDischargeDepth := 3) only [↓X, ↓Y, ↓Q, S1, ↓reduceIte, Nat.reduceEqDiff, Nat.reduceAdd, Int.reduceLT, Int.reduceLE, Int.reduceNeg, Int.reduceBEq, Int.reduceBNe, Int.reduceEq, Nat.reduceLeDiff, Nat.reduceMul, Nat.reduceLT, *]
    | simp (singlePass := true) (maxDischargeDepth := 99) only [*, S2, Nat.reduceLT])
    obtain ⟨i1, i2, i3, i4, i5, i6⟩ := I0.out
    exact ⟨0, y, rfl, rfl, _, rfl, Own.nil _ _ _ _, i1, i2, i3, i4, i5, rfl⟩
  · rintro k m g wk hk hlt nk sk ck hbk hw ⟨hf, s, y, h10, h1y, o, h9, hown, hp⟩
    simp (maxDischargeDepth := 3) only [U, ↓reduceIte, Nat.reduceEqDiff, *] at hf
    obtain ⟨hg, hs, hcd, hy, hnt, htl⟩ := hp.out
    have hck : Cg bm w5 wk := FR
    have hWk := hWx.out wk hck hg
    have rk := Ext.refl wk
    have O := hown.o
    have KO := (hown.sl1 (f := natV)).v (Nat.le_refl _)
    have hlo : lenN o = k := KO.2.2.1.trans htl
    have hfo := hown.far hml7
    have hdn := hdn'.out
    obtain ⟨i0, k0, hpk, hi0, hb0, hk0, hk0y, hc0, hs0, hnx⟩ := nth_step h12d (show k < ds.length by omega) hcd hs hy
    rw [hnt] at hnx
    have hka : k < All.length := by
      have := congrArg List.length hnx
      simp only [List.length_drop, List.length_cons] at this
      omega
    have htk : All.take (k + 1) = All.take k ++ [i0] := by
      rw [appLL_take hka]
      rw [List.drop_eq_getElem_cons hka] at hnx
      rw [(List.cons.inj hnx).1]
    have hdr : nthS ds (ds.length - (k + 1)) (s ||| 2 ^ i0) k0 = All.drop (k + 1) := by
      rw [List.drop_eq_getElem_cons hka] at hnx
      exact (List.cons.inj hnx).2.symm
    have hrl := rdyF_lt s ds 0
    rw [Nat.zero_add] at hrl
    have hR4 : rdyF s 0 ds < 4096 := by omega
    have hs4 : s < 4096 := by omega
    have hrdy := orderReady (nv := natV after.length) (va := va) hWk.hB hWk.hd hdm.out h12d hs4
    have hT6 := hWk.t
    have hwx := fun w' (h : Cg bm wk w') (g : Gd bm ds w') => hWk.go ⟨h, fun _ => g⟩
    replace hwx : Hid _ := hwx
    have ckk : Cg bm wk wk := Chg.refl' wk bm
    have hrm : Hid (∀ i, i ∈ lst (rdyF s 0 ds) → i < ds.length) := fun i hi => (rdy_mem h12d hi).1
    have hL := lst_len12 (rdyF s 0 ds)
    have hyl : y ≤ 8916100448256 := by have := wayS_le h12d s; omega
    have htl2 : Hid ((All.take (k + 1)).length = k + 1) := by show (All.take (k + 1)).length = k + 1; rw [htk, List.length_append, htl]; rfl
    have hll : (All.take k).length < 1000000000000 := by rw [htl]; omega
    have NX : Hid (s ||| 2 ^ i0 < 2 ^ ds.length ∧ card (s ||| 2 ^ i0) = k + 1 ∧ k0 < wayS ds (s ||| 2 ^ i0)) := ⟨hs0, hc0, hk0⟩
    replace htk : Hid _ := htk
    replace hdr : Hid _ := hdr
    replace hWx : Hid _ := hWx
    have hg' : Hid (WayB wk w1.heap.size bm q1 q2 q3 (natV after.length) vd va ds) := hWk
    clear hnx hnt hs0 hc0 hk0 hp hown hg hWk hdn hka
    (repeat' first
    | ((with_reducible refine at_row ?_); refine row1_a fun _ _ _ _ _ _ _ => ?_)
    | with_reducible first | (first | apply alloc_k | apply row_k); intro _ _ _ _ _ _ | (first | apply fork | apply forkp) <;> intro _ | refine forke (fun _ => ?_) fun _ _ => ?_ | refine tail_k fun _ _ _ => ?_ | refine ext_k fun _ _ _ => ?_ | refine need_a ?_ | refine st_agg KR rfl ON fun _ _ _ _ => ?_ | refine wpd_q_a ?_
    | ((with_reducible refine at_f 53 ?_); refine ret_k (hrdy) fun _ _ _ => ?_)
    | simp (maxDischargeDepth := 3) only [↓X, ↓Y, ↓Q, S1, ↓reduceIte, Nat.reduceEqDiff, Nat.reduceAdd, Int.reduceLT, Int.reduceLE, Int.reduceNeg, Int.reduceBEq, Int.reduceBNe, Int.reduceEq, Nat.reduceLeDiff, Nat.reduceMul, Nat.reduceLT, *]
    | simp (singlePass := true) (maxDischargeDepth := 99) only [*, S2, Nat.reduceLT])
    rename_i wA nA sA
    have hxA : Ext wk wA := FR
    refine call_k (orderList (s := rdyF s 0 ds) (hT6.ext hxA) hR4) ?_
    intro u w7b n7b s7b hu
    have hbl : bm < wA.heap.size := FR
    have hfu := hu.far hbl
    have KU := (hu.sl1 (f := natV)).v (Nat.le_refl _)
    have hb7 : bm < w7b.heap.size := FR
    have hx7 : Ext wk w7b := FR
    have hg7 : Hid (Gd bm ds w7b) := (hg'.out.ext hx7).g
    generalize hLL : lst (rdyF s 0 ds) = L at *
    have P0 : Hid (pickN (fun i => wayS ds (s ||| 2 ^ i)) (L.drop 0) y = some (i0, k0)) := hpk
    have hgu0 : Hid (∀ {j : Nat}, j < L.length → ∃ g, wA.heap.size ≤ g ∧ g < w7b.heap.size) := fun {j} hj => by
      rcases hu.1.2 with ⟨_, h0⟩ | ⟨g, cap, cur, rfl, hb, hg, _⟩
      · rw [List.length_map] at h0; omega
      · exact ⟨g, hb, (Array.getElem?_eq_some_iff.1 hg).1⟩
    clear hu hLL hrdy hT6 hR4 hpk
    (repeat' first
    | ((with_reducible refine at_row ?_); refine row1_a fun _ _ _ _ _ _ _ => ?_)
    | with_reducible first | (first | apply alloc_k | apply row_k); intro _ _ _ _ _ _ | (first | apply fork | apply forkp) <;> intro _ | refine forke (fun _ => ?_) fun _ _ => ?_ | refine tail_k fun _ _ _ => ?_ | refine ext_k fun _ _ _ => ?_ | refine need_a ?_ | refine st_agg KR rfl ON fun _ _ _ _ => ?_ | refine wpd_q_a ?_
    | simp (maxDischargeDepth := 3) only [↓X, ↓Y, ↓Q, S1, ↓reduceIte, Nat.reduceEqDiff, Nat.reduceAdd, Int.reduceLT, Int.reduceLE, Int.reduceNeg, Int.reduceBEq, Int.reduceBNe, Int.reduceEq, Nat.reduceLeDiff, Nat.reduceMul, Nat.reduceLT, *]
    | simp (singlePass := true) (maxDischargeDepth := 99) only [*, S2, Nat.reduceLT])
    refine loop_cut 2 (fun g' w' => (g' 6 = .pointer (some ⟨b6, 0, none⟩) ∧ g' 8 = wayV q1 q2 q3) ∧ Cg bm w7 w' ∧ g' 1 = .int .i64 k0 ∧ g' 10 = .int .i64 (s ||| 2 ^ i0 : Nat) ∧ ∃ o', g' 9 = o' ∧ Own w' w7.heap.size 3 1 o' ((All.take (k + 1)).map natC) ∧ Hid (Gd bm ds w')) ?_ ?_
    · refine loop_b bm L.length (fun g0 j g w' => g 42 = .int .i64 j ∧ g 6 = g0 6 ∧ g 8 = g0 8 ∧ g 10 = g0 10 ∧ g 9 = g0 9 ∧ g 40 = g0 40 ∧ g 41 = g0 41 ∧ ∃ y : Nat, g 1 = .int .i64 y ∧ Hid (Gd bm ds w' ∧ y ≤ 8916100448256 ∧ pickN (fun i => wayS ds (s ||| 2 ^ i)) (L.drop j) y = some (i0, k0))) KR (by omega) hb7 ?_ ?_ ?_
      · (repeat' first
    | ((with_reducible refine at_row ?_); refine row1_a fun _ _ _ _ _ _ _ => ?_)
    | with_reducible first | (first | apply alloc_k | apply row_k); intro _ _ _ _ _ _ | (first | apply fork | apply forkp) <;> intro _ | refine forke (fun _ => ?_) fun _ _ => ?_ | refine tail_k fun _ _ _ => ?_ | refine ext_k fun _ _ _ => ?_ | refine need_a ?_ | refine st_agg KR rfl ON fun _ _ _ _ => ?_ | refine wpd_q_a ?_
    | simp (maxDischargeDepth := 3) only [↓X, ↓Y, ↓Q, S1, ↓reduceIte, Nat.reduceEqDiff, Nat.reduceAdd, Int.reduceLT, Int.reduceLE, Int.reduceNeg, Int.reduceBEq, Int.reduceBNe, Int.reduceEq, Nat.reduceLeDiff, Nat.reduceMul, Nat.reduceLT, *]
    | simp (singlePass := true) (maxDischargeDepth := 99) only [*, S2, Nat.reduceLT])
        exact ⟨_, rfl, hg7.out, hyl, P0.out⟩
      · rintro j m2 g2 w2 hk2 hlt2 n2 s2 c2 hb2 hw2 ⟨hi2, hf2, hf3, hf4, hf5, hf6, hf7, y2, h12y, hp2⟩
        simp (maxDischargeDepth := 3) only [U, ↓reduceIte, Nat.reduceEqDiff, *] at hf2 hf3 hf4 hf5 hf6 hf7
        obtain ⟨hgg, hy2, hpk⟩ := hp2.out
        have hck2 : Cg bm wk w2 := FR
        have hW2 := hwx.out w2 hck2 hgg
        have hi1 := hrm.out _ (List.getElem_mem hlt2)
        have r2 := Ext.refl w2
        have cc2 : Cg bm w2 w2 := Chg.refl' w2 bm
        rw [List.drop_eq_getElem_cons hlt2, pickN] at hpk
        generalize hie : L[j] = i at *
        have e5 := shlI_nat (k := i) (by omega)
        have h2i := two_pow_le (k := i) (by omega)
        have hor := or_lt hs hi1
        have e6 := orI_nat (a := s) (b := 2 ^ i) (by omega) (by omega)
        clear hp2 hgg
        (repeat' first
    | ((with_reducible refine at_row ?_); refine row1_a fun _ _ _ _ _ _ _ => ?_)
    | with_reducible first | (first | apply alloc_k | apply row_k); intro _ _ _ _ _ _ | (first | apply fork | apply forkp) <;> intro _ | refine forke (fun _ => ?_) fun _ _ => ?_ | refine tail_k fun _ _ _ => ?_ | refine ext_k fun _ _ _ => ?_ | refine need_a ?_ | refine st_agg KR rfl ON fun _ _ _ _ => ?_ | refine wpd_q_a ?_
    | simp (maxDischargeDepth := 3) only [↓X, ↓Y, ↓Q, S1, ↓reduceIte, Nat.reduceEqDiff, Nat.reduceAdd, Int.reduceLT, Int.reduceLE, Int.reduceNeg, Int.reduceBEq, Int.reduceBNe, Int.reduceEq, Nat.reduceLeDiff, Nat.reduceMul, Nat.reduceLT, *, hie, wayV]
    | simp (singlePass := true) (maxDischargeDepth := 99) only [*, S2, Nat.reduceLT, hie, wayV])
        refine way_k (s := s ||| 2 ^ i) h12d hdl.out hW2 hor fun w6b n6b s6b hE => ?_
        have hg6 : Hid (Gd bm ds w6b) := hE.2 hW2.g
        have hcE : Cg bm w2 w6b := hE.1
        clear hE
        by_cases hlt3 : y2 < wayS ds (s ||| 2 ^ i)
        · rw [if_pos hlt3] at hpk
          obtain ⟨rfl, rfl⟩ := Prod.mk.inj (Option.some.inj hpk)
          have hltI : ((y2 : Int) < (wayS ds (s ||| 2 ^ i) : Nat)) := by omega
          clear hpk
          have hgu : ∃ g, w7.heap.size ≤ g ∧ g < w6b.heap.size ∧ ∀ b, o.ownBlock = some b → b = g := by
            have O6 : Own w6b w7.heap.size 3 1 o ((All.take k).map natC) := O.1 _ FR
            rcases h : o.ownBlock with _ | g
            · obtain ⟨g, h1, h2⟩ := hgu0.out hlt2
              exact ⟨g, Nat.le_trans FR h1, Nat.lt_of_lt_of_le h2 FR, fun b hb => by cases hb⟩
            · exact ⟨g, (O6.lt g h).1, (O6.lt g h).2, fun b hb => (Option.some.inj hb).symm⟩
          obtain ⟨g9, hg9a, hg9b, hg9c⟩ := hgu
          have O6 : Own w6b w7.heap.size 3 1 o ((All.take k).map natC) := O.1 _ FR
          have h56 : w7.heap.size ≤ w6b.heap.size := FR
          replace hg9c : Hid _ := hg9c
          (repeat' first
    | ((with_reducible refine wpd_at 15 ?_); refine wpd_hold ?_)
    | ((with_reducible refine at_row ?_); refine row1_a fun _ _ _ _ _ _ _ => ?_)
    | with_reducible first | (first | apply alloc_k | apply row_k); intro _ _ _ _ _ _ | (first | apply fork | apply forkp) <;> intro _ | refine forke (fun _ => ?_) fun _ _ => ?_ | refine tail_k fun _ _ _ => ?_ | refine ext_k fun _ _ _ => ?_ | refine need_a ?_ | refine st_agg KR rfl ON fun _ _ _ _ => ?_ | refine wpd_q_a ?_
    | simp (maxDischargeDepth := 3) only [↓X, ↓Y, ↓Q, S1, ↓reduceIte, Nat.reduceEqDiff, Nat.reduceAdd, Int.reduceLT, Int.reduceLE, Int.reduceNeg, Int.reduceBEq, Int.reduceBNe, Int.reduceEq, Nat.reduceLeDiff, Nat.reduceMul, Nat.reduceLT, *, hie]
    | simp (singlePass := true) (maxDischargeDepth := 99) only [*, S2, Nat.reduceLT, hie])
          have hRB : ∀ b ∈ [g9], b < w6b.heap.size := by simp only [List.mem_cons, List.not_mem_nil, or_false, forall_eq_or_imp, forall_eq]; exact FR
          unfold wpdH
          refine wpd_relLW 9 [g9] [(3, g9)] rfl (fun iI v w9 => match iI with
            | 0 => v = o
            | 1 => v = .int .i64 (i : Nat)
            | 2 => ∃ b, v = .slice (some ⟨b, 0, none⟩) 1 1 ∧ Blk w9 b 3 [.int .i64 (i : Nat)] ∧ w6b.heap.size ≤ b
            | 3 => Own w9 w7.heap.size 3 1 v ((All.take (k + 1)).map natC)
            | 4 => v = .int .i64 (s : Nat)
            | 5 => v = .int .i64 (i : Nat)
            | 6 => v = .int .i64 ((2 ^ i : Nat) : Int)
            | 7 => v = .int .i64 ((s ||| 2 ^ i : Nat) : Int)
            | 8 => Own w9 w7.heap.size 3 1 v ((All.take (k + 1)).map natC)
            | _ => False) KR KR KR hRB (by simp only [List.nodup_cons, List.mem_cons, List.not_mem_nil, or_false, not_or, List.nodup_nil, not_false_eq_true, and_true] <;> exact FR) ?_ ?_ ?_
          · intro iI v w1 w2 hR hx9
            match iI, hR with
            | 0, h => exact h
            | 1, h => exact h
            | 2, ⟨b, e, h1, h2⟩ => exact ⟨b, e, h1.tb hx9 (fun hX => by have := hRB b hX.1; omega), h2⟩
            | 3, h => exact Own.tbg h hx9 (fun b hb hX => hX.2.1 (by obtain rfl := List.mem_singleton.1 hX.1; rfl))
            | 4, h => exact h
            | 5, h => exact h
            | 6, h => exact h
            | 7, h => exact h
            | 8, h => exact Own.tbg h hx9 (fun b hb hX => absurd (hX.2.2 3 (by obtain rfl := List.mem_singleton.1 hX.1; rfl)) (by decide +kernel))
          · intro iI oO hi ho gF w9 hx9 hdep hag hun hus
            have s9 := hx9.sb
            simp only [Sb, List.mem_cons, List.not_mem_nil, or_false, forall_eq_or_imp, forall_eq] at s9
            have n9 : Now w9 := trivial
            have r9 := Ext.refl w9
            have z9 := hx9.size
            rcases iI with _|_|_|_|_|_|_|_|_|iI
            have e := Option.some.inj ho
            subst e
            have a9 := hus 8 _ 9 (by decide) rfl rfl KR
            simp only [S5, ↓reduceIte, Nat.reduceEqDiff, initF, *] at a9
            have un3 : Kp g9 w6b w9 := ⟨hRB _ (by simp), hun 3 _ (by decide) rfl KR⟩
            clear hag hdep ho hun hus
            refine ⟨fun _ => ?_, fun b hb => by simp [bkL] at hb⟩
            refine relStep_off rfl ?_
            rotate_left
            have e := Option.some.inj ho
            subst e
            have a12 := hag.at 12 KR
            simp only [S5, ↓reduceIte, Nat.reduceEqDiff, initF, *] at a12
            clear hag hdep ho hun hus
            refine ⟨fun _ => ?_, fun b hb => by simp [bkL] at hb⟩
            refine relStep_off rfl ?_
            rotate_left
            have e := Option.some.inj ho
            subst e
            have d1 : (gF 56) = .int .i64 (i : Nat) := hdep ⟨1, .data⟩ (by simp) rfl _ _ rfl rfl
            have un3 : Kp g9 w6b w9 := ⟨hRB _ (by simp), hun 3 _ (by decide) rfl KR⟩
            clear hag hdep ho hun hus
            refine ⟨fun _ => ?_, fun b hb => by simp [bkL] at hb⟩
            refine relStep_off rfl ?_
            rotate_left
            have e := Option.some.inj ho
            subst e
            have d0 : (gF 55) = o := hdep ⟨0, .data⟩ (by simp) rfl _ _ rfl rfl
            have d2 : ∃ b, (gF 57) = .slice (some ⟨b, 0, none⟩) 1 1 ∧ Blk w9 b 3 [.int .i64 (i : Nat)] ∧ w6b.heap.size ≤ b := hdep ⟨2, .data⟩ (by simp) rfl _ _ rfl rfl
            obtain ⟨b2, e2, hb2, q2⟩ := d2
            have k2 := hb2.bk
            have nw2 := Nw.of q2
            clear hag hdep ho hun hus
            refine ⟨fun h => by simp [bkL] at h, fun b hb hU => ?_⟩
            obtain rfl : g9 = b := by simpa [bkL] using hb
            refine relStep_off rfl ?_
            rotate_left
            have e := Option.some.inj ho
            subst e
            have a10 := hag.at 10 KR
            simp only [S5, ↓reduceIte, Nat.reduceEqDiff, initF, *] at a10
            clear hag hdep ho hun hus
            refine ⟨fun _ => ?_, fun b hb => by simp [bkL] at hb⟩
            refine relStep_off rfl ?_
            rotate_left
            have e := Option.some.inj ho
            subst e
            have a12 := hag.at 12 KR
            simp only [S5, ↓reduceIte, Nat.reduceEqDiff, initF, *] at a12
            clear hag hdep ho hun hus
            refine ⟨fun _ => ?_, fun b hb => by simp [bkL] at hb⟩
            refine relStep_off rfl ?_
            rotate_left
            have e := Option.some.inj ho
            subst e
            have d5 : (gF 60) = .int .i64 (i : Nat) := hdep ⟨5, .data⟩ (by simp) rfl _ _ rfl rfl
            clear hag hdep ho hun hus
            refine ⟨fun _ => ?_, fun b hb => by simp [bkL] at hb⟩
            refine relStep_off rfl ?_
            rotate_left
            have e := Option.some.inj ho
            subst e
            have d4 : (gF 59) = .int .i64 (s : Nat) := hdep ⟨4, .data⟩ (by simp) rfl _ _ rfl rfl
            have d6 : (gF 61) = .int .i64 ((2 ^ i : Nat) : Int) := hdep ⟨6, .data⟩ (by simp) rfl _ _ rfl rfl
            clear hag hdep ho hun hus
            refine ⟨fun _ => ?_, fun b hb => by simp [bkL] at hb⟩
            refine relStep_off rfl ?_
            rotate_left
            have e := Option.some.inj ho
            subst e
            have d3 : Own w9 w7.heap.size 3 1 (gF 58) ((All.take (k + 1)).map natC) := hdep ⟨3, .data⟩ (by simp) rfl _ _ rfl rfl
            have O3 := d3.o
            clear hag hdep ho hun hus
            refine ⟨fun _ => ?_, fun b hb => by simp [bkL] at hb⟩
            refine relStep_off rfl ?_
            rotate_left
            · omega
            all_goals (repeat' first
    | ((with_reducible refine at_row ?_); refine row1_a fun _ _ _ _ _ _ _ => ?_)
    | with_reducible first | (first | apply alloc_k | apply row_k); intro _ _ _ _ _ _ | (first | apply fork | apply forkp) <;> intro _ | refine forke (fun _ => ?_) fun _ _ => ?_ | refine tail_k fun _ _ _ => ?_ | refine ext_k fun _ _ _ => ?_ | refine need_a ?_ | refine st_agg KR rfl ON fun _ _ _ _ => ?_ | refine wpd_q_a ?_
    | simp (maxDischargeDepth := 3) only [↓X, ↓Y, ↓Q, S1, ↓reduceIte, Nat.reduceEqDiff, Nat.reduceAdd, Int.reduceLT, Int.reduceLE, Int.reduceNeg, Int.reduceBEq, Int.reduceBNe, Int.reduceEq, Nat.reduceLeDiff, Nat.reduceMul, Nat.reduceLT, *]
    | simp (singlePass := true) (maxDischargeDepth := 99) only [*, S2, Nat.reduceLT])
            all_goals first
              | (rename_i b10 w10 n10 k10 s10 q10; exact ⟨_, rfl, k10.2.1 _ k10.2.2.1, FR⟩)
              | (rename_i b10 w10 n10 k10 s10 q10 l10; exact ⟨_, rfl, k10.2.1 _ k10.2.2.1, FR⟩)
              | (refine appN_both i (O6.keep fun b hb => by obtain rfl := hg9c.out b hb; exact hU) (k2.2.1 _ FR) hll FR (fun v' w10 hf hx10 hh => ?_) (fun g10 cp w10 he hlt hc hh => ?_); exact ⟨Chg.of_ext hx10, by rw [htk.out]; exact hh.more FR⟩; exact ⟨by obtain rfl := hg9c.out g10 (by rw [he]; rfl); exact hc, by rw [htk.out]; exact hh⟩)
              | (exact ⟨FR, d3⟩)
          · intro g9 w9 hx9 hR hS9 hag
            have s9 := hx9.sb
            simp only [Sb, List.mem_cons, List.not_mem_nil, or_false, forall_eq_or_imp, forall_eq] at s9
            have n9 : Now w9 := trivial
            have r9 := Ext.refl w9
            have z9 := hx9.size
            obtain ⟨vs3, d3⟩ := hS9 3 _ (by decide) rfl
            replace d3 : Own w9 w7.heap.size 3 1 vs3 ((All.take (k + 1)).map natC) := d3
            have d7 : (g9 62) = .int .i64 ((s ||| 2 ^ i : Nat) : Int) := hR 7 _ _ (by decide) rfl rfl
            have d8 : Own w9 w7.heap.size 3 1 (g9 9) ((All.take (k + 1)).map natC) := hR 8 _ _ (by decide) rfl rfl
            have O8 := d8.o
            have a1 := hag.at 1 KR
            have a6 := hag.at 6 KR
            have a8 := hag.at 8 KR
            simp only [S5, ↓reduceIte, Nat.reduceEqDiff, initF, *] at a1 a6 a8
            clear hag hR hS9
            simp only [List.drop_succ_cons, List.drop_zero]
            have hc67 : Cg bm w7 w6b := FR
            have hc79 : Cg bm w7 w9 := Chg.tbn hc67 hx9 (fun c hc => by obtain rfl := List.mem_singleton.1 hc; exact hg9a)
            have hg9 : Gd bm ds w9 := by
              obtain ⟨l9, hm9, hG9⟩ := hg6.out
              exact ⟨l9, hm9.keep (hx9.block bm hm9.lt (fun hc => by obtain rfl := List.mem_singleton.1 hc; omega)), hG9⟩
            (repeat' first
    | ((with_reducible refine at_row ?_); refine row1_a fun _ _ _ _ _ _ _ => ?_)
    | with_reducible first | (first | apply alloc_k | apply row_k); intro _ _ _ _ _ _ | (first | apply fork | apply forkp) <;> intro _ | refine forke (fun _ => ?_) fun _ _ => ?_ | refine tail_k fun _ _ _ => ?_ | refine ext_k fun _ _ _ => ?_ | refine need_a ?_ | refine st_agg KR rfl ON fun _ _ _ _ => ?_ | refine wpd_q_a ?_
    | simp (maxDischargeDepth := 3) only [↓X, ↓Y, ↓Q, S1, ↓reduceIte, Nat.reduceEqDiff, Nat.reduceAdd, Int.reduceLT, Int.reduceLE, Int.reduceNeg, Int.reduceBEq, Int.reduceBNe, Int.reduceEq, Nat.reduceLeDiff, Nat.reduceMul, Nat.reduceLT, *, cutX]
    | simp (singlePass := true) (maxDischargeDepth := 99) only [*, S2, Nat.reduceLT, cutX])
            exact ⟨_, rfl, d8, trivial⟩
        · rw [if_neg hlt3] at hpk
          have hltI : ¬ ((y2 : Int) < (wayS ds (s ||| 2 ^ i) : Nat)) := by omega
          have hw9 : IntKind.i64.wrap ((y2 : Int) - (wayS ds (s ||| 2 ^ i) : Nat)) = ((y2 - wayS ds (s ||| 2 ^ i) : Nat) : Int) := by
            rw [show (y2 : Int) - (wayS ds (s ||| 2 ^ i) : Nat) = ((y2 - wayS ds (s ||| 2 ^ i) : Nat) : Int) by omega, wrap_nat (by omega)]
          have J2 : Hid (pickN (fun i => wayS ds (s ||| 2 ^ i)) (L.drop (j + 1)) (y2 - wayS ds (s ||| 2 ^ i)) = some (i0, k0)) := hpk
          clear hpk
          (repeat' first
    | ((with_reducible refine at_row ?_); refine row1_a fun _ _ _ _ _ _ _ => ?_)
    | with_reducible first | (first | apply alloc_k | apply row_k); intro _ _ _ _ _ _ | (first | apply fork | apply forkp) <;> intro _ | refine forke (fun _ => ?_) fun _ _ => ?_ | refine tail_k fun _ _ _ => ?_ | refine ext_k fun _ _ _ => ?_ | refine need_a ?_ | refine st_agg KR rfl ON fun _ _ _ _ => ?_ | refine wpd_q_a ?_
    | simp (maxDischargeDepth := 3) only [↓X, ↓Y, ↓Q, S1, ↓reduceIte, Nat.reduceEqDiff, Nat.reduceAdd, Int.reduceLT, Int.reduceLE, Int.reduceNeg, Int.reduceBEq, Int.reduceBNe, Int.reduceEq, Nat.reduceLeDiff, Nat.reduceMul, Nat.reduceLT, *, hie, hw9]
    | simp (singlePass := true) (maxDischargeDepth := 99) only [*, S2, Nat.reduceLT, hie, hw9])
          refine next_b hk2 hlt2 ?_ FR
          (repeat' first
    | ((with_reducible refine at_row ?_); refine row1_a fun _ _ _ _ _ _ _ => ?_)
    | with_reducible first | (first | apply alloc_k | apply row_k); intro _ _ _ _ _ _ | (first | apply fork | apply forkp) <;> intro _ | refine forke (fun _ => ?_) fun _ _ => ?_ | refine tail_k fun _ _ _ => ?_ | refine ext_k fun _ _ _ => ?_ | refine need_a ?_ | refine st_agg KR rfl ON fun _ _ _ _ => ?_ | refine wpd_q_a ?_
    | simp (maxDischargeDepth := 3) only [↓X, ↓Y, ↓Q, S1, ↓reduceIte, Nat.reduceEqDiff, Nat.reduceAdd, Int.reduceLT, Int.reduceLE, Int.reduceNeg, Int.reduceBEq, Int.reduceBNe, Int.reduceEq, Nat.reduceLeDiff, Nat.reduceMul, Nat.reduceLT, *]
    | simp (singlePass := true) (maxDischargeDepth := 99) only [*, S2, Nat.reduceLT])
          exact ⟨_, rfl, hg6.out, by omega, J2.out⟩
      · rintro g2 w2 n2 s2 c2 hb2 ⟨hi2, hf2, hf3, hf4, hf5, hf6, hf7, y2, h12y, hp2⟩
        have := hp2.out.2.2
        rw [List.drop_length] at this
        cases this
    · rintro g2 w2 ⟨⟨hf6, hf8⟩, hck2, h1k, h10k, o', h9k, hown', hp2⟩
      have n2 : Now w2 := trivial
      have s2 := Chg.sc hck2
      have O' := hown'.o
      clear hown'
      (repeat' first
    | ((with_reducible refine at_row ?_); refine row1_a fun _ _ _ _ _ _ _ => ?_)
    | with_reducible first | (first | apply alloc_k | apply row_k); intro _ _ _ _ _ _ | (first | apply fork | apply forkp) <;> intro _ | refine forke (fun _ => ?_) fun _ _ => ?_ | refine tail_k fun _ _ _ => ?_ | refine ext_k fun _ _ _ => ?_ | refine need_a ?_ | refine st_agg KR rfl ON fun _ _ _ _ => ?_ | refine wpd_q_a ?_
    | simp (maxDischargeDepth := 3) only [↓X, ↓Y, ↓Q, S1, ↓reduceIte, Nat.reduceEqDiff, Nat.reduceAdd, Int.reduceLT, Int.reduceLE, Int.reduceNeg, Int.reduceBEq, Int.reduceBNe, Int.reduceEq, Nat.reduceLeDiff, Nat.reduceMul, Nat.reduceLT, *]
    | simp (singlePass := true) (maxDischargeDepth := 99) only [*, S2, Nat.reduceLT])
      refine next_b hk hlt ?_ FR
      (repeat' first
    | ((with_reducible refine at_row ?_); refine row1_a fun _ _ _ _ _ _ _ => ?_)
    | with_reducible first | (first | apply alloc_k | apply row_k); intro _ _ _ _ _ _ | (first | apply fork | apply forkp) <;> intro _ | refine forke (fun _ => ?_) fun _ _ => ?_ | refine tail_k fun _ _ _ => ?_ | refine ext_k fun _ _ _ => ?_ | refine need_a ?_ | refine st_agg KR rfl ON fun _ _ _ _ => ?_ | refine wpd_q_a ?_
    | simp (maxDischargeDepth := 3) only [↓X, ↓Y, ↓Q, S1, ↓reduceIte, Nat.reduceEqDiff, Nat.reduceAdd, Int.reduceLT, Int.reduceLE, Int.reduceNeg, Int.reduceBEq, Int.reduceBNe, Int.reduceEq, Nat.reduceLeDiff, Nat.reduceMul, Nat.reduceLT, *]
    | simp (singlePass := true) (maxDischargeDepth := 99) only [*, S2, Nat.reduceLT])
      obtain ⟨j1, j2, j3⟩ := NX.out
      exact ⟨rfl, _, _, rfl, rfl, _, rfl, O'.1 _ FR, hp2.out, j1, j2, j3, hdr.out, htl2.out⟩
  · rintro g wk nk sk ck hbk ⟨hf, s, y2, h10, h1y, o, h9, hown, hp⟩
    simp (maxDischargeDepth := 3) only [U, ↓reduceIte, Nat.reduceEqDiff, *] at hf
    obtain ⟨hg, hs, hcd, hy, hnt, htl⟩ := hp.out
    have O := hown.o
    have KO := (hown.sl1 (f := natV)).v (Nat.le_refl _)
    have hlo : lenN o = after.length := KO.2.2.1.trans htl
    have hAll' : Hid (All.take after.length = All) := by
      show All.take after.length = All
      rw [hdn'.out] at hnt
      rw [Nat.sub_self, nthS] at hnt
      have := congrArg List.length hnt
      simp only [List.length_nil, List.length_drop] at this
      exact List.take_of_length_le (by omega)
    have h5w : w.heap.size ≤ w7.heap.size := FR
    have hown9 : Hid (Own wk w7.heap.size 3 1 o ((All.take after.length).map natC)) := hown
    have wkk := Ext.refl wk
    have oo := hown.one
    have hni : ¬ ((after.length : Int) < (after.length : Int)) := by omega
    clear hown hp hnt O
    (repeat' first
    | ((with_reducible refine at_row ?_); refine row1_a fun _ _ _ _ _ _ _ => ?_)
    | with_reducible first | (first | apply alloc_k | apply row_k); intro _ _ _ _ _ _ | (first | apply fork | apply forkp) <;> intro _ | refine forke (fun _ => ?_) fun _ _ => ?_ | refine tail_k fun _ _ _ => ?_ | refine ext_k fun _ _ _ => ?_ | refine need_a ?_ | refine st_agg KR rfl ON fun _ _ _ _ => ?_ | refine wpd_q_a ?_
    | simp (maxDischargeDepth := 3) only [↓X, ↓Y, ↓Q, S1, ↓reduceIte, Nat.reduceEqDiff, Nat.reduceAdd, Int.reduceLT, Int.reduceLE, Int.reduceNeg, Int.reduceBEq, Int.reduceBNe, Int.reduceEq, Nat.reduceLeDiff, Nat.reduceMul, Nat.reduceLT, *]
    | simp (singlePass := true) (maxDischargeDepth := 99) only [*, S2, Nat.reduceLT])
    refine ⟨_, rfl, ?_⟩
    have := hown9.out.more h5w
    rwa [hAll'.out] at this
end
end Go.Proofs.YteeaccnklkcchaaDoor
