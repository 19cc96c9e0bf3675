
/- The laws of the layer drift: DriftShortest. -/
import Derived.Test.YtmcdgepfhpakiaaLaw30d
import Derived.Test.YtmcdgepfhpakiaaPure30b
namespace Go.Proofs.Ytmcdgepfhpakiaa
set_option linter.unusedSimpArgs false
set_option linter.unusedVariables false
open Go Go.RowKit
set_option maxRecDepth 100000
set_option linter.unusedSectionVars false
set_option maxHeartbeats 2000000
theorem goodP_all : ∀ {l : List DriftD} {x : WorldD}, GoodP x → (patchG x l).1 = 0 → GoodP (patchG x l).2
  | [], _, h, _ => h
  | d :: l, x, h, he => by
    unfold patchG at he ⊢
    by_cases h1 : oneE x d = 0
    · rw [if_pos h1] at he ⊢
      exact goodP_all (h.one h1) he
    · rw [if_neg h1] at he
      exact absurd he h1
theorem world_up {w : World} {B B' : Nat} {hv rv : Value} {x : WorldD} (h : WorldR w B hv rv x) (hB : B ≤ B') : WorldR w B' hv rv x := ⟨h.h.more hB, h.r.more hB⟩
section
variable {w : World} {B : Nat} {hv rv lv : Value} {x : WorldD} {l : List DriftD}
theorem lawDriftShortest (hB : B ≤ w.heap.size) (hx0 : WorldR w B hv rv x) (hl0 : Sl w B (some 5) 5 lv (l.map driftV)) (hpx : ∀ s ∈ x.hosts, 0 ≤ s.phase ∧ s.phase ≤ 255) (hk : ∀ d ∈ l, 0 ≤ d.kind ∧ d.kind ≤ 255) : Ret Try.prog 4 #[.agg #[hv, rv], lv] w (.bool true) := by
  have hn : Now w := trivial
  have hx : Ext w w := Ext.refl w
  have hx' := hx0.sk hB
  have hX := hx'.2.2.2.2
  have hl' := hl0.k hB
  have hLL := fun w' (h : Bl B w w') => hl0.bl h
  cases hfx : few30B x
  · (refine callsV_of Try.func4 rfl KR KR ?_; rw [Try.results4])
    (repeat' first
    | ((with_reducible refine at_row ?_); refine row1_a fun _ _ _ _ _ _ _ => ?_)
    | with_reducible first | (first | apply alloc_k | apply row_k); intro _ _ _ _ _ _ | (first | apply fork | apply forkp) <;> intro _ | refine forke (fun _ => ?_) fun _ _ => ?_ | refine tail_k fun _ _ _ => ?_ | refine ext_k fun _ _ _ => ?_ | refine need_a ?_ | refine st_agg KR rfl ON fun _ _ _ _ => ?_ | refine wpd_q_a ?_
    | ((with_reducible refine at_f 7 ?_); refine ret_k (few30 (B := B) (x := x) FR (hX _ FR)) fun _ _ _ => ?_)
    | ((with_reducible refine at_f 8 ?_); refine ret_k (lives30) fun _ _ _ => ?_)
    | simp (maxDischargeDepth := 3) only [↓X, ↓Y, ↓Q, S1, ↓reduceIte, Nat.reduceEqDiff, Nat.reduceAdd, Int.reduceLT, Int.reduceLE, Int.reduceNeg, Int.reduceBEq, Int.reduceBNe, Int.reduceEq, Nat.reduceLeDiff, Nat.reduceMul, Nat.reduceLT, *]
    | simp (singlePass := true) (maxDischargeDepth := 99) only [*, S2, Nat.reduceLT])
  · have hlx := few30_len hfx
    have hgx : GoodP x := ⟨by omega, by omega, hpx⟩
    replace hlx : Hid _ := hlx
    (refine callsV_of Try.func4 rfl KR KR ?_; rw [Try.results4])
    (repeat' first
    | ((with_reducible refine at_row ?_); refine row1_a fun _ _ _ _ _ _ _ => ?_)
    | with_reducible first | (first | apply alloc_k | apply row_k); intro _ _ _ _ _ _ | (first | apply fork | apply forkp) <;> intro _ | refine forke (fun _ => ?_) fun _ _ => ?_ | refine tail_k fun _ _ _ => ?_ | refine ext_k fun _ _ _ => ?_ | refine need_a ?_ | refine st_agg KR rfl ON fun _ _ _ _ => ?_ | refine wpd_q_a ?_
    | ((with_reducible refine at_f 7 ?_); refine ret_k (few30 (B := B) (x := x) FR (hX _ FR)) fun _ _ _ => ?_)
    | ((with_reducible refine at_f 8 ?_); refine ret_k (lives30) fun _ _ _ => ?_)
    | simp (maxDischargeDepth := 3) only [↓X, ↓Y, ↓Q, S1, ↓reduceIte, Nat.reduceEqDiff, Nat.reduceAdd, Int.reduceLT, Int.reduceLE, Int.reduceNeg, Int.reduceBEq, Int.reduceBNe, Int.reduceEq, Nat.reduceLeDiff, Nat.reduceMul, Nat.reduceLT, *]
    | simp (singlePass := true) (maxDischargeDepth := 99) only [*, S2, Nat.reduceLT])
    refine call_k (driftPatch (B := B) FR (hX _ FR) (hLL _ FR) hgx.1 hgx.2.1 hpx hk) ?_
    rintro _ w1 n1 s1 ⟨_, rfl, h1, r1, rfl, oh1, or1⟩
    have a1 := oh1.one
    have a2 := or1.one
    have H1 := oh1.o
    have R1 := or1.o
    by_cases hE : (patchR x l).1 = 0
    · have hs : sortedB x.replicas = true := by
        by_cases hs : sortedB x.replicas = true
        · exact hs
        · rw [patchR, if_neg hs] at hE; cases hE
      have eP : patchR x l = patchG x l := by rw [patchR, if_pos hs]
      have hE' : (patchG x l).1 = 0 := by rw [← eP]; exact hE
      rw [hE]
      generalize hy : (patchR x l).2 = y at *
      have hgy : GoodP y := by rw [← hy, eP]; exact goodP_all hgx hE'
      obtain ⟨hA, hlen, hsh⟩ := patch_short (asc_iff.1 hs) (Prod.ext hE' (by rw [← hy, eP]) : patchG x l = (0, y))
      have hok : diffOk x y = true := by simp [diffOk, hlen, hs, asc_iff.2 hA]
      have hE0 : diffE x y = 0 := by rw [diffE, if_pos hok]
      replace hsh : Hid _ := hsh
      clear oh1 or1 hlen hE hE' eP hy
      (repeat' first
    | ((with_reducible refine at_row ?_); refine row1_a fun _ _ _ _ _ _ _ => ?_)
    | with_reducible first | (first | apply alloc_k | apply row_k); intro _ _ _ _ _ _ | (first | apply fork | apply forkp) <;> intro _ | refine forke (fun _ => ?_) fun _ _ => ?_ | refine tail_k fun _ _ _ => ?_ | refine ext_k fun _ _ _ => ?_ | refine need_a ?_ | refine st_agg KR rfl ON fun _ _ _ _ => ?_ | refine wpd_q_a ?_
    | ((with_reducible refine at_f 8 ?_); refine ret_k (lives30) fun _ _ _ => ?_)
    | simp (maxDischargeDepth := 3) only [↓X, ↓Y, ↓Q, S1, ↓reduceIte, Nat.reduceEqDiff, Nat.reduceAdd, Int.reduceLT, Int.reduceLE, Int.reduceNeg, Int.reduceBEq, Int.reduceBNe, Int.reduceEq, Nat.reduceLeDiff, Nat.reduceMul, Nat.reduceLT, *]
    | simp (singlePass := true) (maxDischargeDepth := 99) only [*, S2, Nat.reduceLT])
      rename_i bZ wZ nZ kZ sZ qZ wV nV kV sV
      have hBV : B ≤ wV.heap.size := FR
      refine call_k (driftDiff (Nat.le_refl _) (world_up (hX _ FR) hBV) (world_own (H1.1 _ FR) (R1.1 _ FR)) hgx.1 hgx.2.1 hgy.2.1 hpx hgy.2.2) ?_
      rintro _ w2 n2 s2 ⟨v2, rfl, o2⟩
      rw [if_pos hok] at o2
      rw [hE0]
      have O2 := o2.slN (f := driftC)
      have O2' := O2.k (Nat.le_refl _)
      (repeat' first
    | ((with_reducible refine at_row ?_); refine row1_a fun _ _ _ _ _ _ _ => ?_)
    | with_reducible first | (first | apply alloc_k | apply row_k); intro _ _ _ _ _ _ | (first | apply fork | apply forkp) <;> intro _ | refine forke (fun _ => ?_) fun _ _ => ?_ | refine tail_k fun _ _ _ => ?_ | refine ext_k fun _ _ _ => ?_ | refine need_a ?_ | refine st_agg KR rfl ON fun _ _ _ _ => ?_ | refine wpd_q_a ?_
    | ((with_reducible refine at_f 8 ?_); refine ret_k (lives30) fun _ _ _ => ?_)
    | simp (maxDischargeDepth := 3) only [↓X, ↓Y, ↓Q, S1, ↓reduceIte, Nat.reduceEqDiff, Nat.reduceAdd, Int.reduceLT, Int.reduceLE, Int.reduceNeg, Int.reduceBEq, Int.reduceBNe, Int.reduceEq, Nat.reduceLeDiff, Nat.reduceMul, Nat.reduceLT, *]
    | simp (singlePass := true) (maxDischargeDepth := 99) only [*, S2, Nat.reduceLT])
      exact absurd hsh.out (by assumption)
    · have he2 : ((patchR x l).1 == 0) = false := by simpa using hE
      clear oh1 or1
      (repeat' first
    | ((with_reducible refine at_row ?_); refine row1_a fun _ _ _ _ _ _ _ => ?_)
    | with_reducible first | (first | apply alloc_k | apply row_k); intro _ _ _ _ _ _ | (first | apply fork | apply forkp) <;> intro _ | refine forke (fun _ => ?_) fun _ _ => ?_ | refine tail_k fun _ _ _ => ?_ | refine ext_k fun _ _ _ => ?_ | refine need_a ?_ | refine st_agg KR rfl ON fun _ _ _ _ => ?_ | refine wpd_q_a ?_
    | ((with_reducible refine at_f 8 ?_); refine ret_k (lives30) fun _ _ _ => ?_)
    | simp (maxDischargeDepth := 3) only [↓X, ↓Y, ↓Q, S1, ↓reduceIte, Nat.reduceEqDiff, Nat.reduceAdd, Int.reduceLT, Int.reduceLE, Int.reduceNeg, Int.reduceBEq, Int.reduceBNe, Int.reduceEq, Nat.reduceLeDiff, Nat.reduceMul, Nat.reduceLT, *]
    | simp (singlePass := true) (maxDischargeDepth := 99) only [*, S2, Nat.reduceLT])
end
end Go.Proofs.Ytmcdgepfhpakiaa
