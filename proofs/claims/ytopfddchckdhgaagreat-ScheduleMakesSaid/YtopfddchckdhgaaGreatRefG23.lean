/- The document's answer, layer 23: inOrder. -/
import Derived.Test.YtopfddchckdhgaaGreatRefA23
import Derived.Test.YtopfddchckdhgaaGreatInO23
import Derived.Test.YtopfddchckdhgaaGreatVal23
namespace Go.Proofs.YtopfddchckdhgaaGreat
set_option linter.unusedSimpArgs false
set_option linter.unusedVariables false
open Go Go.RowKit
set_option maxRecDepth 100000
set_option linter.unusedSectionVars false
set_option maxHeartbeats 2000000
theorem sxRefG231 {p q : Prop} (hq : q) (h : p = q := by first | (simp (maxDischargeDepth := 3) only [↓X, ↓Y, ↓Q, S1, ↓reduceIte, Nat.reduceEqDiff, Nat.reduceAdd, Int.reduceLT, Int.reduceLE, Int.reduceNeg, Int.reduceBEq, Int.reduceBNe, Int.reduceEq, Nat.reduceLeDiff, Nat.reduceMul, Nat.reduceLT, *, siteC, termsC]; try exact rfl) | (simp (singlePass := true) (maxDischargeDepth := 99) only [*, S2, Nat.reduceLT, siteC, termsC]; try exact rfl)) : p := h ▸ hq
theorem sxRefG232 {p q : Prop} (hq : q) (h : p = q := by first | (simp (maxDischargeDepth := 3) only [↓X, ↓Y, ↓Q, S1, ↓reduceIte, Nat.reduceEqDiff, Nat.reduceAdd, Int.reduceLT, Int.reduceLE, Int.reduceNeg, Int.reduceBEq, Int.reduceBNe, Int.reduceEq, Nat.reduceLeDiff, Nat.reduceMul, Nat.reduceLT, *, stepV, stepC]; try exact rfl) | (simp (singlePass := true) (maxDischargeDepth := 99) only [*, S2, Nat.reduceLT, stepV, stepC]; try exact rfl)) : p := h ▸ hq
theorem ascB_skip {n i : Int} {l : List Int} {last : Int} {k : Nat} (hk : k < l.length) : ascB n i last (l.drop k) = (decide (last < l[k]) && decide (l[k] < n) && !(l[k] == i) && ascB n i l[k] (l.drop (k + 1))) := by
  rw [List.drop_eq_getElem_cons hk]
  rfl
theorem pass_next {after : List (List Int)} {d : List Bool} {i : Nat} : passR after d (i + 1) = (passR after d i).set i ((passR after d i).getD i false || freeR after (passR after d i) i) := rfl
theorem rounds_next {after : List (List Int)} {r : Nat} : roundsR after (r + 1) = passR after (roundsR after r) after.length := rfl
section
variable {w : World} {B : Nat} {sv av : Value} {vs : List Value} {p : PlanD}
theorem ref23inOrder (hB : B ≤ w.heap.size) (hp : PlanT w B sv av vs p) : Ret Tryz.prog 60 #[.agg #[sv, av]] w (.bool (ordB p)) := by
  have hn : Now w := trivial
  have hx : Ext w w := Ext.refl w
  have hbw : Bl B w w := Bl.refl hB
  have hsW : SlWf sv ∧ isSl sv ∧ lenN sv = p.steps.length ∧ sv.oneCell' = true ∧ cellsL sv = [sv] := ⟨hp.s.wf, hp.s.sl, by simpa using hp.s.len, hp.s.one, cellsL_one hp.s.one⟩
  have haW : SlWf av ∧ isSl av ∧ lenN av = p.after.length ∧ av.oneCell' = true ∧ cellsL av = [av] := ⟨hp.a.v.wf, hp.a.v.sl, by rw [hp.a.v.len, hp.a.len], hp.a.v.one, cellsL_one hp.a.v.one⟩
  have hrow : Hid (∀ i (hi : i < p.after.length), ∃ u, (∀ w', Bl B w w' → rdv none w' (elemAt av 1 i) = some u) ∧ SlK w B 1 none u p.after[i] intV ∧ p.after[i].length ≤ 9223372036854775807) := fun i hi => by
    obtain ⟨u, h1, h2⟩ := hp.a.at_ i hi
    have hlt : i < vs.length := by rw [hp.a.len]; exact hi
    refine ⟨u, fun w' hb => ?_, h2.k hB, by have := h2.max_; simpa using this⟩
    rw [(hp.a.v.bl hb).rd i hlt]
    rw [List.getElem?_eq_getElem hlt] at h1
    exact h1
  by_cases h1 : p.steps.length ≤ 12
  rotate_left
  · have e : ordB p = false := by unfold ordB; simp [h1]
    rw [e]
    have h1' : (12 : Int) < p.steps.length := by omega
    clear hrow hp
    (refine callsV_of Tryz.func60 rfl KR KR ?_; rw [Tryz.results60])
    (repeat' first
    | with_reducible first | exact ⟨⟩ | (refine gB ?_; intros) | refine gT ?_ ?_
    | refine gs ?_
    | refine sx ?_)
  by_cases h2 : p.after.length = p.steps.length
  rotate_left
  · have e : ordB p = false := by unfold ordB; simp [h2]
    rw [e]
    have h1' : ¬ (12 : Int) < p.steps.length := by omega
    have h2' : ((p.after.length : Int) == (p.steps.length : Int)) = false := by simpa using fun h => h2 (by omega)
    have h2'' : ¬ (p.after.length : Int) = (p.steps.length : Int) := by omega
    clear hrow hp
    (refine callsV_of Tryz.func60 rfl KR KR ?_; rw [Tryz.results60])
    (repeat' first
    | with_reducible first | exact ⟨⟩ | (refine gB ?_; intros) | refine gT ?_ ?_
    | refine gs ?_
    | refine sx ?_)
  have he : Hid (ordB p = (placesAll p.steps.length 0 p.after && (roundsR p.after p.after.length).all id)) := by
    show ordB p = _
    unfold ordB
    rw [decide_eq_true h1, decide_eq_true h2]; rfl
  rw [he.out]
  have hn12 : ¬ (12 : Int) < p.after.length := by omega
  rw [← h2] at hsW ⊢
  have h1n : p.after.length ≤ 12 := by omega
  clear he h1 h2 hp
  have hee : ((p.after.length : Int) == (p.after.length : Int)) = true := by simp
  (refine callsV_of Tryz.func60 rfl KR KR ?_; rw [Tryz.results60])
  (repeat' first
    | with_reducible first | exact ⟨⟩ | (refine gB ?_; intros) | refine gT ?_ ?_
    | refine gs ?_
    | refine sx ?_)
  rename_i b1 w1 n1 k1 s1 q1
  have r1 := Ext.refl w1
  refine loop_cut 0 (fun g' w' => (g' 1 = .pointer (some ⟨b1, 0, none⟩) ∧ g' 3 = .int .i64 (p.after.length : Nat)) ∧ Ext w1 w' ∧ Hid (placesAll p.after.length 0 p.after = true)) ?_ ?_
  · refine loop_k p.after.length (fun g0 k g _ => g 4 = .int .i64 k ∧ (g 1 = g0 1 ∧ g 3 = g0 3) ∧ Hid (∀ j (hj : j < p.after.length), j < k → placesB (p.after.length : Int) (j : Int) p.after[j] = true)) KR (by omega) ?_ ?_ ?_
    · (repeat' first
    | with_reducible first | exact ⟨⟩ | (refine gB ?_; intros) | refine gT ?_ ?_
    | refine gs ?_
    | refine sx ?_)
      exact fun j hj h => absurd h (by omega)
    · rintro i m4 g4 wk hk9 hi nk sk bk hw9 ⟨hi4, hf4, hq⟩
      simp (maxDischargeDepth := 3) only [U, ↓reduceIte, Nat.reduceEqDiff, *] at hf4
      have hiI : (i : Int) < (p.after.length : Int) := by omega
      obtain ⟨u, hu, hU, hU9⟩ := hrow.out i hi
      have hno : Hid (placesB (p.after.length : Int) (i : Int) p.after[i] = false → placesAll p.after.length 0 p.after = false) := fun h => by
        cases h9 : placesAll p.after.length 0 p.after
        · rfl
        · have := placesAll_iff.1 h9 i hi
          rw [Nat.zero_add, h] at this
          cases this
      have hnx : Hid (placesB (p.after.length : Int) (i : Int) p.after[i] = true → ∀ j (hj : j < p.after.length), j < i + 1 → placesB (p.after.length : Int) (j : Int) p.after[j] = true) := fun h j hj hji => by
        rcases Nat.lt_or_eq_of_le (Nat.le_of_lt_succ hji) with h9 | rfl
        · exact hq.out j hj h9
        · exact h
      clear hq hrow
      generalize p.after[i] = L at *
      (repeat' first
    | with_reducible first | exact ⟨⟩ | (refine gB ?_; intros) | refine gT ?_ ?_
    | refine gs ?_
    | refine sx ?_)
      refine loop_k L.length (fun g0 k g _ => g 6 = .int .i64 k ∧ (g 1 = g0 1 ∧ g 3 = g0 3 ∧ g 4 = g0 4) ∧ ∃ last : Int, g 5 = .int .i64 last ∧ Hid (placesB (p.after.length : Int) (i : Int) L = ascB (p.after.length : Int) (i : Int) last (L.drop k))) KR hU9 ?_ ?_ ?_
      · (repeat' first
    | with_reducible first | exact ⟨⟩ | (refine gB ?_; intros) | refine gT ?_ ?_
    | refine gs ?_
    | refine sx ?_)
        exact ⟨_, rfl, rfl⟩
      · rintro k m5 g5 wj hkj hlt nj sj bj hwj ⟨hi5, hf5, last, h5, hq⟩
        simp (maxDischargeDepth := 3) only [U, ↓reduceIte, Nat.reduceEqDiff, *] at hf5
        have hltI : (k : Int) < (L.length : Int) := by omega
        have hsk := ascB_skip (n := (p.after.length : Int)) (i := (i : Int)) (last := last) hlt
        rw [← hq.out] at hsk
        generalize hx9 : L[k] = y at *
        have hsk' : Hid _ := hsk
        clear hq hsk
        by_cases c1 : last < y
        · by_cases c2 : y < (p.after.length : Int)
          · by_cases c3 : y = (i : Int)
            · have hz : placesB (p.after.length : Int) (i : Int) L = false := by rw [hsk'.out, show (y == (i : Int)) = true by simpa using c3]; simp
              have hz2 := hno.out hz
              have c3' : (y == (i : Int)) = true := by simpa using c3
              have c1' : ¬ y ≤ last := by omega
              have c2' : ¬ (p.after.length : Int) ≤ y := by omega
              rw [hz2, Bool.false_and]
              clear hz hz2 hsk' hno hnx
              (repeat' first
    | with_reducible first | exact ⟨⟩ | (refine gB ?_; intros) | refine gT ?_ ?_
    | refine gs ?_
    | simp (maxDischargeDepth := 3) only [↓X, ↓Y, ↓Q, S1, ↓reduceIte, Nat.reduceEqDiff, Nat.reduceAdd, Int.reduceLT, Int.reduceLE, Int.reduceNeg, Int.reduceBEq, Int.reduceBNe, Int.reduceEq, Nat.reduceLeDiff, Nat.reduceMul, Nat.reduceLT, *, hx9, cutX]
    | simp (singlePass := true) (maxDischargeDepth := 99) only [*, S2, Nat.reduceLT, hx9, cutX])
            · have hz : Hid (placesB (p.after.length : Int) (i : Int) L = ascB (p.after.length : Int) (i : Int) y (L.drop (k + 1))) := by
                show placesB (p.after.length : Int) (i : Int) L = ascB (p.after.length : Int) (i : Int) y (L.drop (k + 1))
                rw [hsk'.out, decide_eq_true c1, decide_eq_true c2, show (y == (i : Int)) = false by simpa using c3]; rfl
              have c3' : (y == (i : Int)) = false := by simpa using c3
              have c1' : ¬ y ≤ last := by omega
              have c2' : ¬ (p.after.length : Int) ≤ y := by omega
              clear hsk' hno hnx
              (repeat' first
    | with_reducible first | exact ⟨⟩ | (refine gB ?_; intros) | refine gT ?_ ?_
    | refine gs ?_
    | simp (maxDischargeDepth := 3) only [↓X, ↓Y, ↓Q, S1, ↓reduceIte, Nat.reduceEqDiff, Nat.reduceAdd, Int.reduceLT, Int.reduceLE, Int.reduceNeg, Int.reduceBEq, Int.reduceBNe, Int.reduceEq, Nat.reduceLeDiff, Nat.reduceMul, Nat.reduceLT, *, hx9]
    | simp (singlePass := true) (maxDischargeDepth := 99) only [*, S2, Nat.reduceLT, hx9])
              refine next_k hkj hlt ?_ FR
              (repeat' first
    | with_reducible first | exact ⟨⟩ | (refine gB ?_; intros) | refine gT ?_ ?_
    | refine gs ?_
    | refine sx ?_)
              exact ⟨_, rfl, hz.out⟩
          · have hz : placesB (p.after.length : Int) (i : Int) L = false := by rw [hsk'.out, decide_eq_false c2]; simp
            have hz2 := hno.out hz
            have c1' : ¬ y ≤ last := by omega
            have c2' : (p.after.length : Int) ≤ y := by omega
            rw [hz2, Bool.false_and]
            clear hz hz2 hsk' hno hnx
            (repeat' first
    | with_reducible first | exact ⟨⟩ | (refine gB ?_; intros) | refine gT ?_ ?_
    | refine gs ?_
    | simp (maxDischargeDepth := 3) only [↓X, ↓Y, ↓Q, S1, ↓reduceIte, Nat.reduceEqDiff, Nat.reduceAdd, Int.reduceLT, Int.reduceLE, Int.reduceNeg, Int.reduceBEq, Int.reduceBNe, Int.reduceEq, Nat.reduceLeDiff, Nat.reduceMul, Nat.reduceLT, *, hx9, cutX]
    | simp (singlePass := true) (maxDischargeDepth := 99) only [*, S2, Nat.reduceLT, hx9, cutX])
        · have hz : placesB (p.after.length : Int) (i : Int) L = false := by rw [hsk'.out, decide_eq_false c1]; simp
          have hz2 := hno.out hz
          have c1' : y ≤ last := by omega
          rw [hz2, Bool.false_and]
          clear hz hz2 hsk' hno hnx
          (repeat' first
    | with_reducible first | exact ⟨⟩ | (refine gB ?_; intros) | refine gT ?_ ?_
    | refine gs ?_
    | simp (maxDischargeDepth := 3) only [↓X, ↓Y, ↓Q, S1, ↓reduceIte, Nat.reduceEqDiff, Nat.reduceAdd, Int.reduceLT, Int.reduceLE, Int.reduceNeg, Int.reduceBEq, Int.reduceBNe, Int.reduceEq, Nat.reduceLeDiff, Nat.reduceMul, Nat.reduceLT, *, hx9, cutX]
    | simp (singlePass := true) (maxDischargeDepth := 99) only [*, S2, Nat.reduceLT, hx9, cutX])
      · rintro g5 wj nj sj bj ⟨hi5, hf5, last, h5, hq⟩
        simp (maxDischargeDepth := 3) only [U, ↓reduceIte, Nat.reduceEqDiff, *] at hf5
        have hz := hq.out
        rw [List.drop_length] at hz
        have hz2 : Hid _ := hnx.out hz
        clear hq hz hno hnx
        (repeat' first
    | with_reducible first | exact ⟨⟩ | (refine gB ?_; intros) | refine gT ?_ ?_
    | refine gs ?_
    | refine sx ?_)
        refine next_k hk9 hi ?_ FR
        (repeat' first
    | with_reducible first | exact ⟨⟩ | (refine gB ?_; intros) | refine gT ?_ ?_
    | refine gs ?_
    | refine sx ?_)
        all_goals exact hz2.out
    · rintro g4 wk nk sk bk ⟨hi4, hf4, hq⟩
      simp (maxDischargeDepth := 3) only [U, ↓reduceIte, Nat.reduceEqDiff, *] at hf4
      have hpa : Hid (placesAll p.after.length 0 p.after = true) := placesAll_iff.2 fun k hk => by
        have := hq.out k hk hk
        rw [Nat.zero_add]; exact this
      clear hq
      (repeat' first
    | with_reducible first | exact ⟨⟩ | (refine gB ?_; intros) | refine gT ?_ ?_
    | refine gs ?_
    | simp (maxDischargeDepth := 3) only [↓X, ↓Y, ↓Q, S1, ↓reduceIte, Nat.reduceEqDiff, Nat.reduceAdd, Int.reduceLT, Int.reduceLE, Int.reduceNeg, Int.reduceBEq, Int.reduceBNe, Int.reduceEq, Nat.reduceLeDiff, Nat.reduceMul, Nat.reduceLT, *, cutX]
    | simp (singlePass := true) (maxDischargeDepth := 99) only [*, S2, Nat.reduceLT, cutX])
      all_goals first | exact hpa | exact hpa.out | trace_state
  · rintro g2 w2 ⟨⟨f1, f3⟩, hx2, hpa⟩
    have n2 : Now w2 := trivial
    have s2 := hx2.st
    have r2 := Ext.refl w2
    rw [hpa.out, Bool.true_and]
    have hpj : Hid (∀ i (hi : i < p.after.length), ∀ j ∈ p.after[i], ∃ jn : Nat, j = (jn : Int) ∧ jn < p.after.length) := fun i hi j hj => by
      have h9 := placesAll_at hpa.out i hi
      have := ascB_mem h9 j hj
      exact ⟨j.toNat, by omega, by omega⟩
    clear hpa
    (repeat' first
    | with_reducible first | exact ⟨⟩ | (refine gB ?_; intros) | refine gT ?_ ?_
    | refine gs ?_
    | refine sx ?_)
    refine mk_one_k (n := p.after.length) (z := .bool false) rfl (by decide) (by omega) fun bD wD nD kD sD qD => ?_
    have K0 : Hid (Blk wD bD 4 ((roundsR p.after 0).map Value.bool)) := by
      show Blk wD bD 4 ((List.replicate p.after.length false).map Value.bool)
      rw [List.map_replicate]
      exact kD.2.1 _ kD.2.2.1
    have hlD : bD < wD.heap.size := kD.2.2.2.1
    have hwD : w.heap.size ≤ bD := FR
    have hBD : B ≤ bD := by omega
    have h1D : ¬ b1 = bD := by have h9 : b1 < w2.heap.size := FR; have h8 : w2.heap.size ≤ bD := FR; omega
    have bwD : Bl B w wD := FR
    have xwD : Ext w wD := FR
    have k1D := (show Blk wD b1 33 [sv, av] from k1.2.1 _ FR).bk
    clear kD qD sD k1 s1 q1 s2 r2 hx2 hbw hx r1 n1 n2
    have sD := xwD.st
    (repeat' first
    | with_reducible first | exact ⟨⟩ | (refine gB ?_; intros) | refine gT ?_ ?_
    | refine gs ?_
    | refine sx ?_)
    refine loop_b bD p.after.length (fun g0 r g w' => g 9 = .int .i64 r ∧ (g 1 = g0 1 ∧ g 3 = g0 3 ∧ g 8 = g0 8) ∧ Hid (Blk w' bD 4 ((roundsR p.after r).map Value.bool))) KR (by omega) hlD ?_ ?_ ?_
    · (repeat' first
    | with_reducible first | exact ⟨⟩ | (refine gB ?_; intros) | refine gT ?_ ?_
    | refine gs ?_
    | refine sx ?_)
      all_goals exact K0.out
    · clear K0
      rintro r m g4 wk hk hr nk sk ck hbk hw ⟨hi4, hf4, hR⟩
      simp (maxDischargeDepth := 3) only [U, ↓reduceIte, Nat.reduceEqDiff, *] at hf4
      have hrI : (r : Int) < (p.after.length : Int) := by omega
      (repeat' first
    | with_reducible first | exact ⟨⟩ | (refine gB ?_; intros) | refine gT ?_ ?_
    | refine gs ?_
    | refine sx ?_)
      refine loop_b bD p.after.length (fun g0 i g w' => g 10 = .int .i64 i ∧ (g 1 = g0 1 ∧ g 3 = g0 3 ∧ g 8 = g0 8 ∧ g 9 = g0 9) ∧ Hid (Blk w' bD 4 ((passR p.after (roundsR p.after r) i).map Value.bool))) KR (by omega) hbk ?_ ?_ ?_
      · (repeat' first
    | with_reducible first | exact ⟨⟩ | (refine gB ?_; intros) | refine gT ?_ ?_
    | refine gs ?_
    | refine sx ?_)
        all_goals exact hR.out
      · rintro i m3 g3 w3 hk3 hi n3 s3 c3 hb3 hw3 ⟨hi3, hf3, hP⟩
        simp (maxDischargeDepth := 3) only [U, ↓reduceIte, Nat.reduceEqDiff, *] at hf3
        have hiI : (i : Int) < (p.after.length : Int) := by omega
        obtain ⟨u, hu, hU, hU9⟩ := hrow.out i hi
        have hbl3 : Bl B w w3 := FR
        have k3D := hP.out.bk
        have hDl : Hid ((passR p.after (roundsR p.after r) i).length = p.after.length) := by
          show (passR p.after (roundsR p.after r) i).length = p.after.length
          rw [pass_len, rounds_len]
        have hjp := hpj.out i hi
        have hfr : Hid (passR p.after (roundsR p.after r) (i + 1) = (passR p.after (roundsR p.after r) i).set i ((passR p.after (roundsR p.after r) i).getD i false || p.after[i].all (fun j => (passR p.after (roundsR p.after r) i).getD j.toNat false))) := by
          show passR p.after (roundsR p.after r) (i + 1) = _
          rw [pass_next]
          unfold freeR
          rw [List.getElem?_eq_getElem hi, Option.getD_some]
        generalize hDs : passR p.after (roundsR p.after r) i = Ds at *
        generalize p.after[i] = L at *
        have hgt : Hid (∀ jn, jn < p.after.length → (Ds.map Value.bool)[jn]? = some (.bool (Ds.getD jn false))) := fun jn hj => by
          have h9 : jn < Ds.length := by rw [hDl.out]; exact hj
          rw [List.getElem?_map, List.getElem?_eq_getElem h9, List.getD_eq_getElem?_getD, List.getElem?_eq_getElem h9]; rfl
        have hjp' : Hid _ := hjp
        have hP' : Hid (Blk w3 bD 4 (Ds.map Value.bool)) := hP
        clear hP hDs hjp hR
        (repeat' first
    | with_reducible first | exact ⟨⟩ | (refine gB ?_; intros) | refine gT ?_ ?_
    | refine gs ?_
    | refine sx ?_)
        refine loop_k L.length (fun g0 k g _ => g 12 = .int .i64 k ∧ (g 1 = g0 1 ∧ g 3 = g0 3 ∧ g 8 = g0 8 ∧ g 9 = g0 9 ∧ g 10 = g0 10) ∧ g 11 = .bool ((L.take k).all fun j => Ds.getD j.toNat false)) KR hU9 ?_ ?_ ?_
        · (repeat' first
    | with_reducible first | exact ⟨⟩ | (refine gB ?_; intros) | refine gT ?_ ?_
    | refine gs ?_
    | simp (maxDischargeDepth := 3) only [↓X, ↓Y, ↓Q, S1, ↓reduceIte, Nat.reduceEqDiff, Nat.reduceAdd, Int.reduceLT, Int.reduceLE, Int.reduceNeg, Int.reduceBEq, Int.reduceBNe, Int.reduceEq, Nat.reduceLeDiff, Nat.reduceMul, Nat.reduceLT, *, List.take_zero, List.all_nil]
    | simp (singlePass := true) (maxDischargeDepth := 99) only [*, S2, Nat.reduceLT, List.take_zero, List.all_nil])
        · rintro k m5 g5 wj hkj hlt nj sj bj hwj ⟨hi5, hf5, h11⟩
          simp (maxDischargeDepth := 3) only [U, ↓reduceIte, Nat.reduceEqDiff, *] at hf5
          have hltI : (k : Int) < (L.length : Int) := by omega
          obtain ⟨jn, hjn, hjl⟩ := hjp'.out _ (List.getElem_mem hlt)
          have hjlI : (jn : Int) < (p.after.length : Int) := by omega
          have hg9 := hgt.out jn hjl
          have hnx : ((L.take (k + 1)).all fun j => Ds.getD j.toNat false) = (((L.take k).all fun j => Ds.getD j.toNat false) && Ds.getD jn false) := by rw [all_take hlt, hjn, Int.toNat_natCast]
          generalize ((L.take k).all fun j => Ds.getD j.toNat false) = q at *
          generalize Ds.getD jn false = z at *
          cases q
          · rw [Bool.false_and] at hnx
            (repeat' first
    | with_reducible first | exact ⟨⟩ | (refine gB ?_; intros) | refine gT ?_ ?_
    | refine gs ?_
    | simp (maxDischargeDepth := 3) only [↓X, ↓Y, ↓Q, S1, ↓reduceIte, Nat.reduceEqDiff, Nat.reduceAdd, Int.reduceLT, Int.reduceLE, Int.reduceNeg, Int.reduceBEq, Int.reduceBNe, Int.reduceEq, Nat.reduceLeDiff, Nat.reduceMul, Nat.reduceLT, *, hjn, hg9]
    | simp (singlePass := true) (maxDischargeDepth := 99) only [*, S2, Nat.reduceLT, hjn, hg9])
            refine next_k hkj hlt ?_ FR
            (repeat' first
    | with_reducible first | exact ⟨⟩ | (refine gB ?_; intros) | refine gT ?_ ?_
    | refine gs ?_
    | simp (maxDischargeDepth := 3) only [↓X, ↓Y, ↓Q, S1, ↓reduceIte, Nat.reduceEqDiff, Nat.reduceAdd, Int.reduceLT, Int.reduceLE, Int.reduceNeg, Int.reduceBEq, Int.reduceBNe, Int.reduceEq, Nat.reduceLeDiff, Nat.reduceMul, Nat.reduceLT, *, hnx]
    | simp (singlePass := true) (maxDischargeDepth := 99) only [*, S2, Nat.reduceLT, hnx])
          · rw [Bool.true_and] at hnx
            (repeat' first
    | with_reducible first | exact ⟨⟩ | (refine gB ?_; intros) | refine gT ?_ ?_
    | refine gs ?_
    | simp (maxDischargeDepth := 3) only [↓X, ↓Y, ↓Q, S1, ↓reduceIte, Nat.reduceEqDiff, Nat.reduceAdd, Int.reduceLT, Int.reduceLE, Int.reduceNeg, Int.reduceBEq, Int.reduceBNe, Int.reduceEq, Nat.reduceLeDiff, Nat.reduceMul, Nat.reduceLT, *, hjn, hg9]
    | simp (singlePass := true) (maxDischargeDepth := 99) only [*, S2, Nat.reduceLT, hjn, hg9])
            refine next_k hkj hlt ?_ FR
            (repeat' first
    | with_reducible first | exact ⟨⟩ | (refine gB ?_; intros) | refine gT ?_ ?_
    | refine gs ?_
    | simp (maxDischargeDepth := 3) only [↓X, ↓Y, ↓Q, S1, ↓reduceIte, Nat.reduceEqDiff, Nat.reduceAdd, Int.reduceLT, Int.reduceLE, Int.reduceNeg, Int.reduceBEq, Int.reduceBNe, Int.reduceEq, Nat.reduceLeDiff, Nat.reduceMul, Nat.reduceLT, *, hnx]
    | simp (singlePass := true) (maxDischargeDepth := 99) only [*, S2, Nat.reduceLT, hnx])
        · rintro g5 wj nj sj bj ⟨hi5, hf5, h11⟩
          simp (maxDischargeDepth := 3) only [U, ↓reduceIte, Nat.reduceEqDiff, *] at hf5
          rw [List.take_length] at h11
          have hg9 := hgt.out i hi
          have hmf := hfr.out
          generalize hq : (L.all fun j => Ds.getD j.toNat false) = q at *
          generalize hz : Ds.getD i false = z at *
          have hset : Hid ((Ds.map Value.bool).set i (.bool (z || q)) = (passR p.after (roundsR p.after r) (i + 1)).map Value.bool) := by
            show (Ds.map Value.bool).set i (.bool (z || q)) = _
            rw [hmf, List.map_set]
          have hil : i < (Ds.map Value.bool).length := by rw [List.length_map, hDl.out]; exact hi
          have rj := Ext.refl wj
          clear hmf hfr hq hz
          cases z
          · rw [Bool.false_or] at hset
            (repeat' first
    | with_reducible first | exact ⟨⟩ | (refine gB ?_; intros) | refine gT ?_ ?_
    | refine gs ?_
    | simp (maxDischargeDepth := 3) only [↓X, ↓Y, ↓Q, S1, ↓reduceIte, Nat.reduceEqDiff, Nat.reduceAdd, Int.reduceLT, Int.reduceLE, Int.reduceNeg, Int.reduceBEq, Int.reduceBNe, Int.reduceEq, Nat.reduceLeDiff, Nat.reduceMul, Nat.reduceLT, *, hg9]
    | simp (singlePass := true) (maxDischargeDepth := 99) only [*, S2, Nat.reduceLT, hg9])
            refine fun hb => store_intro (i := i) KR hb hil rfl fun wz hbz cz => ?_
            have nz : Now wz := trivial
            have sz : Sc wj wz bD := cz.sc
            have I4 : Hid (Blk wz bD 4 ((passR p.after (roundsR p.after r) (i + 1)).map Value.bool)) := by
              show Blk wz bD 4 ((passR p.after (roundsR p.after r) (i + 1)).map Value.bool)
              rw [← hset.out]; exact hbz
            clear hbz cz k3D hP'
            (repeat' first
    | with_reducible first | exact ⟨⟩ | (refine gB ?_; intros) | refine gT ?_ ?_
    | refine gs ?_
    | refine sx ?_)
            refine next_b hk3 hi ?_ FR
            (repeat' first
    | with_reducible first | exact ⟨⟩ | (refine gB ?_; intros) | refine gT ?_ ?_
    | refine gs ?_
    | refine sx ?_)
            all_goals exact I4.out
          · rw [Bool.true_or] at hset
            (repeat' first
    | with_reducible first | exact ⟨⟩ | (refine gB ?_; intros) | refine gT ?_ ?_
    | refine gs ?_
    | simp (maxDischargeDepth := 3) only [↓X, ↓Y, ↓Q, S1, ↓reduceIte, Nat.reduceEqDiff, Nat.reduceAdd, Int.reduceLT, Int.reduceLE, Int.reduceNeg, Int.reduceBEq, Int.reduceBNe, Int.reduceEq, Nat.reduceLeDiff, Nat.reduceMul, Nat.reduceLT, *, hg9]
    | simp (singlePass := true) (maxDischargeDepth := 99) only [*, S2, Nat.reduceLT, hg9])
            refine fun hb => store_intro (i := i) KR hb hil rfl fun wz hbz cz => ?_
            have nz : Now wz := trivial
            have sz : Sc wj wz bD := cz.sc
            have I4 : Hid (Blk wz bD 4 ((passR p.after (roundsR p.after r) (i + 1)).map Value.bool)) := by
              show Blk wz bD 4 ((passR p.after (roundsR p.after r) (i + 1)).map Value.bool)
              rw [← hset.out]; exact hbz
            clear hbz cz k3D hP'
            (repeat' first
    | with_reducible first | exact ⟨⟩ | (refine gB ?_; intros) | refine gT ?_ ?_
    | refine gs ?_
    | refine sx ?_)
            refine next_b hk3 hi ?_ FR
            (repeat' first
    | with_reducible first | exact ⟨⟩ | (refine gB ?_; intros) | refine gT ?_ ?_
    | refine gs ?_
    | refine sx ?_)
            all_goals exact I4.out
      · rintro g3 w3 n3 s3 c3 hb3 ⟨hi3, hf3, hP⟩
        simp (maxDischargeDepth := 3) only [U, ↓reduceIte, Nat.reduceEqDiff, *] at hf3
        have hP2 : Hid (Blk w3 bD 4 ((roundsR p.after (r + 1)).map Value.bool)) := hP.out
        clear hP
        (repeat' first
    | with_reducible first | exact ⟨⟩ | (refine gB ?_; intros) | refine gT ?_ ?_
    | refine gs ?_
    | refine sx ?_)
        refine next_b hk hr ?_ FR
        (repeat' first
    | with_reducible first | exact ⟨⟩ | (refine gB ?_; intros) | refine gT ?_ ?_
    | refine gs ?_
    | refine sx ?_)
        all_goals exact hP2.out
    · clear K0
      rintro g4 wk nk sk ck hbk ⟨hi4, hf4, hR⟩
      simp (maxDischargeDepth := 3) only [U, ↓reduceIte, Nat.reduceEqDiff, *] at hf4
      have kR := hR.out.bk
      have hRl : Hid ((roundsR p.after p.after.length).length = p.after.length) := by
        show (roundsR p.after p.after.length).length = p.after.length
        rw [rounds_len]
      generalize roundsR p.after p.after.length = R at *
      have hgt : Hid (∀ jn (h : jn < R.length), (R.map Value.bool)[jn]? = some (.bool R[jn])) := fun jn hj => by
        rw [List.getElem?_map, List.getElem?_eq_getElem hj]; rfl
      clear hR
      (repeat' first
    | with_reducible first | exact ⟨⟩ | (refine gB ?_; intros) | refine gT ?_ ?_
    | refine gs ?_
    | refine sx ?_)
      refine loop_k p.after.length (fun g0 k g _ => g 13 = .int .i64 k ∧ (g 3 = g0 3 ∧ g 8 = g0 8) ∧ Hid ((R.take k).all id = true)) KR (by omega) ?_ ?_ ?_
      · (repeat' first
    | with_reducible first | exact ⟨⟩ | (refine gB ?_; intros) | refine gT ?_ ?_
    | refine gs ?_
    | refine sx ?_)
        exact rfl
      · rintro k m5 g5 wj hkj hlt nj sj bj hwj ⟨hi5, hf5, hq⟩
        simp (maxDischargeDepth := 3) only [U, ↓reduceIte, Nat.reduceEqDiff, *] at hf5
        have hkR : k < R.length := by rw [hRl.out]; exact hlt
        have hltI : (k : Int) < (p.after.length : Int) := by omega
        have hg9 := hgt.out k hkR
        cases hz : R[k]
        · have hall : R.all id = false := all_at hkR (by rw [hz]; rfl)
          rw [hz] at hg9
          rw [hall]
          clear hz hall hq
          (repeat' first
    | with_reducible first | exact ⟨⟩ | (refine gB ?_; intros) | refine gT ?_ ?_
    | refine gs ?_
    | simp (maxDischargeDepth := 3) only [↓X, ↓Y, ↓Q, S1, ↓reduceIte, Nat.reduceEqDiff, Nat.reduceAdd, Int.reduceLT, Int.reduceLE, Int.reduceNeg, Int.reduceBEq, Int.reduceBNe, Int.reduceEq, Nat.reduceLeDiff, Nat.reduceMul, Nat.reduceLT, *, hg9]
    | simp (singlePass := true) (maxDischargeDepth := 99) only [*, S2, Nat.reduceLT, hg9])
        · have hq2 : Hid ((R.take (k + 1)).all id = true) := by
            show (R.take (k + 1)).all id = true
            rw [all_take hkR, hq.out, hz]; rfl
          rw [hz] at hg9
          clear hz hq
          (repeat' first
    | with_reducible first | exact ⟨⟩ | (refine gB ?_; intros) | refine gT ?_ ?_
    | refine gs ?_
    | simp (maxDischargeDepth := 3) only [↓X, ↓Y, ↓Q, S1, ↓reduceIte, Nat.reduceEqDiff, Nat.reduceAdd, Int.reduceLT, Int.reduceLE, Int.reduceNeg, Int.reduceBEq, Int.reduceBNe, Int.reduceEq, Nat.reduceLeDiff, Nat.reduceMul, Nat.reduceLT, *, hg9]
    | simp (singlePass := true) (maxDischargeDepth := 99) only [*, S2, Nat.reduceLT, hg9])
          refine next_k hkj hlt ?_ FR
          (repeat' first
    | with_reducible first | exact ⟨⟩ | (refine gB ?_; intros) | refine gT ?_ ?_
    | refine gs ?_
    | refine sx ?_)
          all_goals exact hq2.out
      · rintro g5 wj nj sj bj ⟨hi5, hf5, hq⟩
        simp (maxDischargeDepth := 3) only [U, ↓reduceIte, Nat.reduceEqDiff, *] at hf5
        have hall : R.all id = true := by
          have h9 := hq.out
          rwa [← hRl.out, List.take_length] at h9
        rw [hall]
        clear hall hq
        (repeat' first
    | with_reducible first | exact ⟨⟩ | (refine gB ?_; intros) | refine gT ?_ ?_
    | refine gs ?_
    | refine sx ?_)
end
end Go.Proofs.YtopfddchckdhgaaGreat
/- The document's answer, layer 23: Valid. -/
namespace Go.Proofs.YtopfddchckdhgaaGreat
set_option linter.unusedSimpArgs false
set_option linter.unusedVariables false
open Go Go.RowKit
set_option maxRecDepth 100000
set_option linter.unusedSectionVars false
set_option maxHeartbeats 2000000
section
variable {w w' : World} {B : Nat} {f : FrV} {s : SiteD} {p : PlanD} {x : TermsD}
theorem ref23Valid (hB : B ≤ w.heap.size) (h : ArgT w B f s p x) (hkd : ∀ t ∈ p.steps, 0 ≤ t.kind ∧ t.kind ≤ 255) (hdm : (∀ y ∈ x.windows, 0 ≤ y.domain ∧ y.domain ≤ 255) ∧ ∀ y ∈ x.areas, 0 ≤ y.domain ∧ y.domain ≤ 255) : Ret Tryz.prog 26 #[.agg (siteC f.u s).toArray, .agg #[f.sv, f.av], .agg (termsC f.q x).toArray] w (.bool (validT s p x)) := by
  have hn : Now w := trivial
  have hx : Ext w w := Ext.refl w
  have ho := h.ones
  have hbw : Bl B w w := Bl.refl hB
  have KS := h.p.s.k hB
  have KF := h.p.s.fk
  have KT := h.x.t.k hB
  have KP := h.x.p.k hB
  have KN := h.x.n.k hB
  have KA := h.x.a.k hB
  have KAF := h.x.a.fk
  have KH := h.s.h.k hB
  have hmn := h.x.n.max_
  have hma := h.x.a.max_
  have hms := h.p.s.max_
  have hsv := fun w' (h1 : Bl B w w') => ref12Valid h1.size (h.bl h1).s
  have hio := fun w' (h1 : Bl B w w') => ref23inOrder h1.size (h.bl h1).p
  have hct := fun w' (h1 : Bl B w w') d => ref12Count (d := d) h1.size (h.bl h1).s
  have hrg : Hid (∀ d, 0 ≤ countF s d ∧ countF s d ≤ 9223372036854775807) := fun d => count_rng (d := d) (h.s.up23 hB)
  have hkd' : Hid _ := hkd
  clear h hkd hdm
  cases h1 : siteB s
  · have e : validT s p x = false := by unfold validT; rw [h1]; simp
    rw [e]
    rw [h1] at hsv
    clear e h1
    (refine callsV_of Tryz.func26 rfl KR KR ?_; rw [Tryz.results26])
    (repeat' first
    | with_reducible first | exact ⟨⟩ | (refine gB ?_; intros) | refine gT ?_ ?_
    | refine gs ?_
    | ((with_reducible refine at_f 59 ?_); refine ret_k (hsv _ FR) fun _ _ _ => ?_)
    | refine sxRefG231 ?_)
  rw [h1] at hsv
  have hH16 : s.hosts.length ≤ 16 := by
    have h9 := (site_all h1).2.2.2.2
    simp only [sizesB, btw, Bool.and_eq_true, decide_eq_true_eq] at h9
    omega
  cases h2 : ordB p
  · have e : validT s p x = false := by unfold validT; rw [h2]; simp
    rw [e]
    rw [h2] at hio
    clear e h1 h2
    (refine callsV_of Tryz.func26 rfl KR KR ?_; rw [Tryz.results26])
    (repeat' first
    | with_reducible first | exact ⟨⟩ | (refine gB ?_; intros) | refine gT ?_ ?_
    | refine gs ?_
    | ((with_reducible refine at_f 59 ?_); refine ret_k (hsv _ FR) fun _ _ _ => ?_)
    | ((with_reducible refine at_f 60 ?_); refine ret_k (hio _ FR) fun _ _ _ => ?_)
    | refine sxRefG231 ?_)
  rw [h2] at hio
  by_cases h3 : x.takes.length = 8
  rotate_left
  · have e : validT s p x = false := by unfold validT; simp [h3]
    rw [e]
    have h3' : ((x.takes.length : Int) == 8) = false := by simpa using fun h => h3 (by omega)
    have h3'' : ¬ (x.takes.length : Int) = 8 := by omega
    clear e h1 h2 h3
    (refine callsV_of Tryz.func26 rfl KR KR ?_; rw [Tryz.results26])
    (repeat' first
    | with_reducible first | exact ⟨⟩ | (refine gB ?_; intros) | refine gT ?_ ?_
    | refine gs ?_
    | ((with_reducible refine at_f 59 ?_); refine ret_k (hsv _ FR) fun _ _ _ => ?_)
    | ((with_reducible refine at_f 60 ?_); refine ret_k (hio _ FR) fun _ _ _ => ?_)
    | refine sxRefG231 ?_)
  by_cases h4 : x.approved.length = p.steps.length
  rotate_left
  · have e : validT s p x = false := by unfold validT; simp [h4]
    rw [e]
    have h3' : (x.takes.length : Int) = 8 := by omega
    have h4' : ((x.approved.length : Int) == (p.steps.length : Int)) = false := by simpa using fun h => h4 (by omega)
    have h4'' : ¬ (x.approved.length : Int) = (p.steps.length : Int) := by omega
    clear e h1 h2
    (refine callsV_of Tryz.func26 rfl KR KR ?_; rw [Tryz.results26])
    (repeat' first
    | with_reducible first | exact ⟨⟩ | (refine gB ?_; intros) | refine gT ?_ ?_
    | refine gs ?_
    | ((with_reducible refine at_f 59 ?_); refine ret_k (hsv _ FR) fun _ _ _ => ?_)
    | ((with_reducible refine at_f 60 ?_); refine ret_k (hio _ FR) fun _ _ _ => ?_)
    | refine sxRefG231 ?_)
  have h4' : (x.approved.length : Int) = (p.steps.length : Int) := by omega
  have h3' : (x.takes.length : Int) = 8 := by omega
  cases h5 : btw x.last 0 1000000
  · have e : validT s p x = false := by unfold validT; rw [h5]; simp
    rw [e]
    have hf5 := fun w' => ref23from (w := w') (n := x.last) (lo := 0) (hi := 1000000)
    rw [h5] at hf5
    clear e h1 h2
    (refine callsV_of Tryz.func26 rfl KR KR ?_; rw [Tryz.results26])
    (repeat' first
    | with_reducible first | exact ⟨⟩ | (refine gB ?_; intros) | refine gT ?_ ?_
    | refine gs ?_
    | ((with_reducible refine at_f 59 ?_); refine ret_k (hsv _ FR) fun _ _ _ => ?_)
    | ((with_reducible refine at_f 60 ?_); refine ret_k (hio _ FR) fun _ _ _ => ?_)
    | ((with_reducible refine at_f 61 ?_); refine ret_k (hf5 _) fun _ _ _ => ?_)
    | refine sxRefG231 ?_)
  cases h6 : btw x.first 0 x.last
  · have e : validT s p x = false := by unfold validT; rw [h6]; simp
    rw [e]
    clear e h1 h2
    (refine callsV_of Tryz.func26 rfl KR KR ?_; rw [Tryz.results26])
    (repeat' first
    | with_reducible first | exact ⟨⟩ | (refine gB ?_; intros) | refine gT ?_ ?_
    | refine gs ?_
    | ((with_reducible refine at_f 59 ?_); refine ret_k (hsv _ FR) fun _ _ _ => ?_)
    | ((with_reducible refine at_f 60 ?_); refine ret_k (hio _ FR) fun _ _ _ => ?_)
    | ((with_reducible refine at_f 61 ?_); refine ret_k (ref23from) fun _ _ _ => ?_)
    | simp (maxDischargeDepth := 3) only [↓X, ↓Y, ↓Q, S1, ↓reduceIte, Nat.reduceEqDiff, Nat.reduceAdd, Int.reduceLT, Int.reduceLE, Int.reduceNeg, Int.reduceBEq, Int.reduceBNe, Int.reduceEq, Nat.reduceLeDiff, Nat.reduceMul, Nat.reduceLT, *, siteC, termsC, h5, h6]
    | simp (singlePass := true) (maxDischargeDepth := 99) only [*, S2, Nat.reduceLT, siteC, termsC, h5, h6])
  have hE : validT s p x = (btw x.blast 0 16 && (decide (x.windows.length ≤ 16) && decide (x.areas.length ≤ 16)) && (p.steps.all (stepT s) && ((x.takes.drop 1).all (fun n => btw n 1 1000) && x.approved.all fun n => btw n (-1) 1000000) && x.windows.all (windowT s) && x.areas.all (areaT s))) := by
    unfold validT
    rw [h1, h2, decide_eq_true h3, decide_eq_true h4, h5, h6]
    simp only [Bool.true_and]
  rw [hE]
  have hSf : Hid (∀ k (hk : k < p.steps.length), stepT s p.steps[k] = false → p.steps.all (stepT s) = false) := fun k hk h => all_at hk h
  have hSt : Hid ((∀ k (hk : k < p.steps.length), stepT s p.steps[k] = true) → p.steps.all (stepT s) = true) := fun h => List.all_eq_true.2 fun y hy => by
    obtain ⟨k, hk, rfl⟩ := List.getElem_of_mem hy
    exact h k hk
  have hAf : Hid (∀ k (hk : k < x.approved.length), btw x.approved[k] (-1) 1000000 = false → (x.approved.all fun n => btw n (-1) 1000000) = false) := fun k hk h => all_at hk h
  have hAt : Hid ((∀ k (hk : k < x.approved.length), btw x.approved[k] (-1) 1000000 = true) → (x.approved.all fun n => btw n (-1) 1000000) = true) := fun h => List.all_eq_true.2 fun y hy => by
    obtain ⟨k, hk, rfl⟩ := List.getElem_of_mem hy
    exact h k hk
  have hTf : Hid (∀ k (hk : k + 1 < x.takes.length), btw x.takes[k + 1] 1 1000 = false → ((x.takes.drop 1).all fun n => btw n 1 1000) = false) := fun k hk h => by
    have hk' : k < (x.takes.drop 1).length := by rw [List.length_drop]; omega
    refine all_at hk' ?_
    rw [List.getElem_drop]
    have e9 : x.takes[1 + k]'(by omega) = x.takes[k + 1] := by congr 1; omega
    rw [e9]; exact h
  have hTt : Hid ((∀ k (hk : k + 1 < x.takes.length), btw x.takes[k + 1] 1 1000 = true) → ((x.takes.drop 1).all fun n => btw n 1 1000) = true) := fun h => List.all_eq_true.2 fun y hy => by
    obtain ⟨k, hk, rfl⟩ := List.getElem_of_mem hy
    rw [List.length_drop] at hk
    rw [List.getElem_drop]
    have e9 : x.takes[1 + k]'(by omega) = x.takes[k + 1]'(by omega) := by congr 1; omega
    rw [e9]; exact h k (by omega)
  have hWf : Hid (∀ k (hk : k < x.windows.length), windowT s x.windows[k] = false → x.windows.all (windowT s) = false) := fun k hk h => all_at hk h
  have hWt : Hid ((∀ k (hk : k < x.windows.length), windowT s x.windows[k] = true) → x.windows.all (windowT s) = true) := fun h => List.all_eq_true.2 fun y hy => by
    obtain ⟨k, hk, rfl⟩ := List.getElem_of_mem hy
    exact h k hk
  have hRf : Hid (∀ k (hk : k < x.areas.length), areaT s x.areas[k] = false → x.areas.all (areaT s) = false) := fun k hk h => all_at hk h
  have hRt : Hid ((∀ k (hk : k < x.areas.length), areaT s x.areas[k] = true) → x.areas.all (areaT s) = true) := fun h => List.all_eq_true.2 fun y hy => by
    obtain ⟨k, hk, rfl⟩ := List.getElem_of_mem hy
    exact h k hk
  generalize p.steps.all (stepT s) = S at *
  generalize (x.approved.all fun n => btw n (-1) 1000000) = A at *
  generalize ((x.takes.drop 1).all fun n => btw n 1 1000) = T at *
  generalize x.windows.all (windowT s) = W at *
  generalize x.areas.all (areaT s) = R at *
  have hwh : IntKind.i64.wrap ((s.hosts.length : Int) - 1) = (s.hosts.length : Int) - 1 := by rw [wrap_i64_id] <;> omega
  have hwc : Hid (∀ d, IntKind.i64.wrap (countF s d - 1) = countF s d - 1) := fun d => by
    have := hrg.out d
    rw [wrap_i64_id] <;> omega
  have h3h : Hid (x.takes.length = 8) := h3
  clear h1 h2 hE hrg h3
  (refine callsV_of Tryz.func26 rfl KR KR ?_; rw [Tryz.results26])
  (repeat' first
    | with_reducible first | exact ⟨⟩ | (refine gB ?_; intros) | refine gT ?_ ?_
    | refine gs ?_
    | ((with_reducible refine at_f 59 ?_); refine ret_k (hsv _ FR) fun _ _ _ => ?_)
    | ((with_reducible refine at_f 60 ?_); refine ret_k (hio _ FR) fun _ _ _ => ?_)
    | ((with_reducible refine at_f 61 ?_); refine ret_k (ref23from) fun _ _ _ => ?_)
    | simp (maxDischargeDepth := 3) only [↓X, ↓Y, ↓Q, S1, ↓reduceIte, Nat.reduceEqDiff, Nat.reduceAdd, Int.reduceLT, Int.reduceLE, Int.reduceNeg, Int.reduceBEq, Int.reduceBNe, Int.reduceEq, Nat.reduceLeDiff, Nat.reduceMul, Nat.reduceLT, *, siteC, termsC, h5, h6]
    | simp (singlePass := true) (maxDischargeDepth := 99) only [*, S2, Nat.reduceLT, siteC, termsC, h5, h6])
  refine loop_k p.steps.length (fun g0 k g _ => g 7 = .int .i64 k ∧ (g 3 = g0 3 ∧ g 4 = g0 4 ∧ g 5 = g0 5) ∧ Hid (∀ j (hj : j < p.steps.length), j < k → stepT s p.steps[j] = true ∧ ∀ a, x.approved[j]? = some a → btw a (-1) 1000000 = true)) KR hms ?_ ?_ ?_
  · (repeat' first
    | with_reducible first | exact ⟨⟩ | (refine gB ?_; intros) | refine gT ?_ ?_
    | refine gs ?_
    | refine sx ?_)
    exact fun j hj h => absurd h (by omega)
  · rintro k m g wk hk hlt nk sk bk hw ⟨hi, hf, hq⟩
    simp (maxDischargeDepth := 3) only [U, ↓reduceIte, Nat.reduceEqDiff, *] at hf
    have hka : k < x.approved.length := by omega
    have hltI : (k : Int) < (p.steps.length : Int) := by omega
    have hst : stepT s p.steps[k] = (btw p.steps[k].kind 1 7 && btw p.steps[k].host 0 ((s.hosts.length : Int) - 1)) := rfl
    have hf9 := hSf.out k hlt
    have ha9 := hAf.out k hka
    have hnx : Hid (stepT s p.steps[k] = true → btw x.approved[k] (-1) 1000000 = true → ∀ j (hj : j < p.steps.length), j < k + 1 → stepT s p.steps[j] = true ∧ ∀ a, x.approved[j]? = some a → btw a (-1) 1000000 = true) := fun e1 e2 j hj hjk => by
      rcases Nat.lt_or_eq_of_le (Nat.le_of_lt_succ hjk) with h9 | rfl
      · exact hq.out j hj h9
      · exact ⟨e1, fun a h9 => by rw [List.getElem?_eq_getElem hka] at h9; rw [← Option.some.inj h9]; exact e2⟩
    rw [hst] at hf9
    clear hq
    by_cases c1 : 1 ≤ p.steps[k].kind
    rotate_left
    · have e1 : S = false := hf9 (by rw [show btw p.steps[k].kind 1 7 = false by simp [btw, c1]]; rfl)
      have c1' : p.steps[k].kind < 1 := by omega
      rw [e1]
      simp only [Bool.false_and, Bool.and_false]
      clear hf9 ha9 hnx e1
      (repeat' first
    | with_reducible first | exact ⟨⟩ | (refine gB ?_; intros) | refine gT ?_ ?_
    | refine gs ?_
    | refine sxRefG232 ?_)
    by_cases c2 : p.steps[k].kind ≤ 7
    rotate_left
    · have e1 : S = false := hf9 (by rw [show btw p.steps[k].kind 1 7 = false by simp [btw, c2]]; rfl)
      have c1' : ¬ p.steps[k].kind < 1 := by omega
      have c2' : 7 < p.steps[k].kind := by omega
      rw [e1]
      simp only [Bool.false_and, Bool.and_false]
      clear hf9 ha9 hnx e1
      (repeat' first
    | with_reducible first | exact ⟨⟩ | (refine gB ?_; intros) | refine gT ?_ ?_
    | refine gs ?_
    | refine sxRefG232 ?_)
    have c1' : ¬ p.steps[k].kind < 1 := by omega
    have c2' : ¬ 7 < p.steps[k].kind := by omega
    have hbk : btw p.steps[k].kind 1 7 = true := by simp [btw, c1, c2]
    cases c3 : btw p.steps[k].host 0 ((s.hosts.length : Int) - 1)
    · have e1 : S = false := hf9 (by rw [c3, Bool.and_false])
      rw [e1]
      simp only [Bool.false_and, Bool.and_false]
      clear hf9 ha9 hnx e1 hst hbk
      (repeat' first
    | with_reducible first | exact ⟨⟩ | (refine gB ?_; intros) | refine gT ?_ ?_
    | refine gs ?_
    | ((with_reducible refine at_q 61 ?_); refine qret_k (fun _ _ _ => ref23from) ?_)
    | simp (maxDischargeDepth := 3) only [↓X, ↓Y, ↓Q, S1, ↓reduceIte, Nat.reduceEqDiff, Nat.reduceAdd, Int.reduceLT, Int.reduceLE, Int.reduceNeg, Int.reduceBEq, Int.reduceBNe, Int.reduceEq, Nat.reduceLeDiff, Nat.reduceMul, Nat.reduceLT, *, stepV, stepC, c3]
    | simp (singlePass := true) (maxDischargeDepth := 99) only [*, S2, Nat.reduceLT, stepV, stepC, c3])
    · cases c4 : btw x.approved[k] (-1) 1000000
      · have e1 : A = false := ha9 c4
        rw [e1]
        simp only [Bool.false_and, Bool.and_false]
        clear hf9 ha9 hnx e1 hst hbk
        (repeat' first
    | with_reducible first | exact ⟨⟩ | (refine gB ?_; intros) | refine gT ?_ ?_
    | refine gs ?_
    | ((with_reducible refine at_q 61 ?_); refine qret_k (fun _ _ _ => ref23from) ?_)
    | simp (maxDischargeDepth := 3) only [↓X, ↓Y, ↓Q, S1, ↓reduceIte, Nat.reduceEqDiff, Nat.reduceAdd, Int.reduceLT, Int.reduceLE, Int.reduceNeg, Int.reduceBEq, Int.reduceBNe, Int.reduceEq, Nat.reduceLeDiff, Nat.reduceMul, Nat.reduceLT, *, stepV, stepC, c3, c4]
    | simp (singlePass := true) (maxDischargeDepth := 99) only [*, S2, Nat.reduceLT, stepV, stepC, c3, c4])
      · have hq2 : Hid _ := hnx.out (by rw [hst, hbk, c3]; rfl) c4
        clear hf9 ha9 hnx hst hbk
        (repeat' first
    | with_reducible first | exact ⟨⟩ | (refine gB ?_; intros) | refine gT ?_ ?_
    | refine gs ?_
    | ((with_reducible refine at_q 61 ?_); refine qret_k (fun _ _ _ => ref23from) ?_)
    | simp (maxDischargeDepth := 3) only [↓X, ↓Y, ↓Q, S1, ↓reduceIte, Nat.reduceEqDiff, Nat.reduceAdd, Int.reduceLT, Int.reduceLE, Int.reduceNeg, Int.reduceBEq, Int.reduceBNe, Int.reduceEq, Nat.reduceLeDiff, Nat.reduceMul, Nat.reduceLT, *, stepV, stepC, c3, c4]
    | simp (singlePass := true) (maxDischargeDepth := 99) only [*, S2, Nat.reduceLT, stepV, stepC, c3, c4])
        refine next_k hk hlt ?_ FR
        (repeat' first
    | with_reducible first | exact ⟨⟩ | (refine gB ?_; intros) | refine gT ?_ ?_
    | refine gs ?_
    | refine sx ?_)
        all_goals exact hq2.out
  · rintro g wk nk sk bk ⟨hi, hf, hq⟩
    simp (maxDischargeDepth := 3) only [U, ↓reduceIte, Nat.reduceEqDiff, *] at hf
    have e1 : S = true := hSt.out fun k hk => (hq.out k hk hk).1
    have e2 : A = true := hAt.out fun k hk => (hq.out k (by omega) (by omega)).2 _ (List.getElem?_eq_getElem hk)
    rw [e1, e2]
    simp only [Bool.true_and, Bool.and_true]
    have rk := Ext.refl wk
    clear hq e1 e2 hSf hSt hAf hAt
    (repeat' first
    | with_reducible first | exact ⟨⟩ | (refine gB ?_; intros) | refine gT ?_ ?_
    | refine gs ?_
    | refine sx ?_)
    refine loop_k 7 (fun g0 k g _ => g 9 = .int .i64 ((k + 1 : Nat) : Int) ∧ (g 3 = g0 3 ∧ g 5 = g0 5) ∧ Hid (∀ j, j < k → ∀ a, x.takes[j + 1]? = some a → btw a 1 1000 = true)) KR (by decide) ?_ ?_ ?_
    · (repeat' first
    | with_reducible first | exact ⟨⟩ | (refine gB ?_; intros) | refine gT ?_ ?_
    | refine gs ?_
    | refine sx ?_)
      all_goals first | exact rfl | exact fun j h => absurd h (by omega) | exact ⟨rfl, fun j h => absurd h (by omega)⟩
    · rintro k m g wj hk hlt nj sj bj hw ⟨hi, hf, hq⟩
      simp (maxDischargeDepth := 3) only [U, ↓reduceIte, Nat.reduceEqDiff, *] at hf
      have hkt : k + 1 < x.takes.length := by have := h3h.out; omega
      have hktI : ((k + 1 : Nat) : Int) < (x.takes.length : Int) := by omega
      have hk8 : ((k + 1 : Nat) : Int) < 8 := by omega
      have hw2 : IntKind.i64.wrap (((k + 1 : Nat) : Int) + 1) = ((k + 1 + 1 : Nat) : Int) := by rw [wrap_i64_id] <;> omega
      have hf9 := hTf.out k hkt
      have hnx : Hid (btw x.takes[k + 1] 1 1000 = true → ∀ j, j < k + 1 → ∀ a, x.takes[j + 1]? = some a → btw a 1 1000 = true) := fun e1 j hjk a ha => by
        rcases Nat.lt_or_eq_of_le (Nat.le_of_lt_succ hjk) with h9 | rfl
        · exact hq.out j h9 a ha
        · rw [List.getElem?_eq_getElem hkt] at ha
          rw [← Option.some.inj ha]; exact e1
      clear hq
      cases c3 : btw x.takes[k + 1] 1 1000
      · have e1 : T = false := hf9 c3
        rw [e1]
        simp only [Bool.false_and, Bool.and_false]
        clear hf9 hnx e1
        (repeat' first
    | with_reducible first | exact ⟨⟩ | (refine gB ?_; intros) | refine gT ?_ ?_
    | refine gs ?_
    | ((with_reducible refine at_f 61 ?_); refine ret_k (ref23from) fun _ _ _ => ?_)
    | simp (maxDischargeDepth := 3) only [↓X, ↓Y, ↓Q, S1, ↓reduceIte, Nat.reduceEqDiff, Nat.reduceAdd, Int.reduceLT, Int.reduceLE, Int.reduceNeg, Int.reduceBEq, Int.reduceBNe, Int.reduceEq, Nat.reduceLeDiff, Nat.reduceMul, Nat.reduceLT, *, c3]
    | simp (singlePass := true) (maxDischargeDepth := 99) only [*, S2, Nat.reduceLT, c3])
      · have hq2 : Hid _ := hnx.out c3
        clear hf9 hnx
        (repeat' first
    | with_reducible first | exact ⟨⟩ | (refine gB ?_; intros) | refine gT ?_ ?_
    | refine gs ?_
    | ((with_reducible refine at_f 61 ?_); refine ret_k (ref23from) fun _ _ _ => ?_)
    | simp (maxDischargeDepth := 3) only [↓X, ↓Y, ↓Q, S1, ↓reduceIte, Nat.reduceEqDiff, Nat.reduceAdd, Int.reduceLT, Int.reduceLE, Int.reduceNeg, Int.reduceBEq, Int.reduceBNe, Int.reduceEq, Nat.reduceLeDiff, Nat.reduceMul, Nat.reduceLT, *, c3]
    | simp (singlePass := true) (maxDischargeDepth := 99) only [*, S2, Nat.reduceLT, c3])
        refine next_k hk hlt ?_ FR
        (repeat' first
    | with_reducible first | exact ⟨⟩ | (refine gB ?_; intros) | refine gT ?_ ?_
    | refine gs ?_
    | refine sx ?_)
        all_goals first | exact hq2.out | exact ⟨rfl, hq2.out⟩
    · rintro g wj nj sj bj ⟨hi, hf, hq⟩
      simp (maxDischargeDepth := 3) only [U, ↓reduceIte, Nat.reduceEqDiff, *] at hf
      replace hi : g 9 = .int .i64 8 := hi
      have e1 : T = true := hTt.out fun k hk => hq.out k (by have := h3h.out; omega) _ (List.getElem?_eq_getElem hk)
      rw [e1]
      simp only [Bool.true_and, Bool.and_true]
      have rj := Ext.refl wj
      clear hq e1 hTf hTt
      by_cases w1 : x.windows.length ≤ 16
      rotate_left
      · have w1' : (16 : Int) < (x.windows.length : Int) := by omega
        rw [decide_eq_false w1]
        simp only [Bool.false_and, Bool.and_false]
        (repeat' first
    | with_reducible first | exact ⟨⟩ | (refine gB ?_; intros) | refine gT ?_ ?_
    | refine gs ?_
    | refine sx ?_)
      by_cases w2 : x.areas.length ≤ 16
      rotate_left
      · have w1' : ¬ (16 : Int) < (x.windows.length : Int) := by omega
        have w2' : (16 : Int) < (x.areas.length : Int) := by omega
        rw [decide_eq_false w2]
        simp only [Bool.false_and, Bool.and_false]
        (repeat' first
    | with_reducible first | exact ⟨⟩ | (refine gB ?_; intros) | refine gT ?_ ?_
    | refine gs ?_
    | refine sx ?_)
      rw [decide_eq_true w1, decide_eq_true w2]
      have w1' : ¬ (16 : Int) < (x.windows.length : Int) := by omega
      have w2' : ¬ (16 : Int) < (x.areas.length : Int) := by omega
      cases w3 : btw x.blast 0 16
      · simp only [Bool.false_and, Bool.and_false]
        (repeat' first
    | with_reducible first | exact ⟨⟩ | (refine gB ?_; intros) | refine gT ?_ ?_
    | refine gs ?_
    | ((with_reducible refine at_f 61 ?_); refine ret_k (ref23from) fun _ _ _ => ?_)
    | simp (maxDischargeDepth := 3) only [↓X, ↓Y, ↓Q, S1, ↓reduceIte, Nat.reduceEqDiff, Nat.reduceAdd, Int.reduceLT, Int.reduceLE, Int.reduceNeg, Int.reduceBEq, Int.reduceBNe, Int.reduceEq, Nat.reduceLeDiff, Nat.reduceMul, Nat.reduceLT, *, w3]
    | simp (singlePass := true) (maxDischargeDepth := 99) only [*, S2, Nat.reduceLT, w3])
      simp only [Bool.true_and, Bool.and_true]
      (repeat' first
    | with_reducible first | exact ⟨⟩ | (refine gB ?_; intros) | refine gT ?_ ?_
    | refine gs ?_
    | ((with_reducible refine at_f 61 ?_); refine ret_k (ref23from) fun _ _ _ => ?_)
    | simp (maxDischargeDepth := 3) only [↓X, ↓Y, ↓Q, S1, ↓reduceIte, Nat.reduceEqDiff, Nat.reduceAdd, Int.reduceLT, Int.reduceLE, Int.reduceNeg, Int.reduceBEq, Int.reduceBNe, Int.reduceEq, Nat.reduceLeDiff, Nat.reduceMul, Nat.reduceLT, *, w3]
    | simp (singlePass := true) (maxDischargeDepth := 99) only [*, S2, Nat.reduceLT, w3])
      refine loop_k x.windows.length (fun g0 k g _ => g 11 = .int .i64 k ∧ (g 3 = g0 3 ∧ g 10 = g0 10) ∧ Hid (∀ j (hj : j < x.windows.length), j < k → windowT s x.windows[j] = true)) KR hmn ?_ ?_ ?_
      · (repeat' first
    | with_reducible first | exact ⟨⟩ | (refine gB ?_; intros) | refine gT ?_ ?_
    | refine gs ?_
    | refine sx ?_)
        exact fun j hj h => absurd h (by omega)
      · rintro k m g wl hk hlt nl sl bl hw ⟨hi, hf, hq⟩
        simp (maxDischargeDepth := 3) only [U, ↓reduceIte, Nat.reduceEqDiff, *] at hf
        have hltI : (k : Int) < (x.windows.length : Int) := by omega
        have hst : windowT s x.windows[k] = (btw x.windows[k].index 0 (countF s x.windows[k].domain - 1) && btw x.windows[k].til 0 1000000 && btw x.windows[k].frm 0 (x.windows[k].til - 1)) := rfl
        have hf9 := hWf.out k hlt
        have hw1 := hwc.out x.windows[k].domain
        have hnx : Hid (windowT s x.windows[k] = true → ∀ j (hj : j < x.windows.length), j < k + 1 → windowT s x.windows[j] = true) := fun e1 j hj hjk => by
          rcases Nat.lt_or_eq_of_le (Nat.le_of_lt_succ hjk) with h9 | rfl
          · exact hq.out j hj h9
          · exact e1
        rw [hst] at hf9
        clear hq
        cases c1 : btw x.windows[k].index 0 (countF s x.windows[k].domain - 1)
        · have e1 : W = false := hf9 (by rw [c1]; rfl)
          rw [e1]
          simp only [Bool.false_and, Bool.and_false]
          clear hf9 hnx e1 hst
          (repeat' first
    | with_reducible first | exact ⟨⟩ | (refine gB ?_; intros) | refine gT ?_ ?_
    | refine gs ?_
    | ((with_reducible refine at_q 62 ?_); refine qret_k (fun _ _ _ => hct _ FR _) ?_)
    | ((with_reducible refine at_q 61 ?_); refine qret_k (fun _ _ _ => ref23from) ?_)
    | simp (maxDischargeDepth := 3) only [↓X, ↓Y, ↓Q, S1, ↓reduceIte, Nat.reduceEqDiff, Nat.reduceAdd, Int.reduceLT, Int.reduceLE, Int.reduceNeg, Int.reduceBEq, Int.reduceBNe, Int.reduceEq, Nat.reduceLeDiff, Nat.reduceMul, Nat.reduceLT, *, siteC, windowV, hw1, c1]
    | simp (singlePass := true) (maxDischargeDepth := 99) only [*, S2, Nat.reduceLT, siteC, windowV, hw1, c1])
        · cases c2 : btw x.windows[k].til 0 1000000
          · have e1 : W = false := hf9 (by rw [c1, c2]; rfl)
            rw [e1]
            simp only [Bool.false_and, Bool.and_false]
            clear hf9 hnx e1 hst
            (repeat' first
    | with_reducible first | exact ⟨⟩ | (refine gB ?_; intros) | refine gT ?_ ?_
    | refine gs ?_
    | ((with_reducible refine at_q 62 ?_); refine qret_k (fun _ _ _ => hct _ FR _) ?_)
    | ((with_reducible refine at_q 61 ?_); refine qret_k (fun _ _ _ => ref23from) ?_)
    | simp (maxDischargeDepth := 3) only [↓X, ↓Y, ↓Q, S1, ↓reduceIte, Nat.reduceEqDiff, Nat.reduceAdd, Int.reduceLT, Int.reduceLE, Int.reduceNeg, Int.reduceBEq, Int.reduceBNe, Int.reduceEq, Nat.reduceLeDiff, Nat.reduceMul, Nat.reduceLT, *, siteC, windowV, hw1, c1, c2]
    | simp (singlePass := true) (maxDischargeDepth := 99) only [*, S2, Nat.reduceLT, siteC, windowV, hw1, c1, c2])
          · have hw2 : IntKind.i64.wrap (x.windows[k].til - 1) = x.windows[k].til - 1 := by
              have c2' := c2
              simp only [btw, Bool.and_eq_true, decide_eq_true_eq] at c2'
              rw [wrap_i64_id] <;> omega
            cases c4 : btw x.windows[k].frm 0 (x.windows[k].til - 1)
            · have e1 : W = false := hf9 (by rw [c1, c2, c4]; rfl)
              rw [e1]
              simp only [Bool.false_and, Bool.and_false]
              clear hf9 hnx e1 hst
              (repeat' first
    | with_reducible first | exact ⟨⟩ | (refine gB ?_; intros) | refine gT ?_ ?_
    | refine gs ?_
    | ((with_reducible refine at_q 62 ?_); refine qret_k (fun _ _ _ => hct _ FR _) ?_)
    | ((with_reducible refine at_q 61 ?_); refine qret_k (fun _ _ _ => ref23from) ?_)
    | simp (maxDischargeDepth := 3) only [↓X, ↓Y, ↓Q, S1, ↓reduceIte, Nat.reduceEqDiff, Nat.reduceAdd, Int.reduceLT, Int.reduceLE, Int.reduceNeg, Int.reduceBEq, Int.reduceBNe, Int.reduceEq, Nat.reduceLeDiff, Nat.reduceMul, Nat.reduceLT, *, siteC, windowV, hw1, hw2, c1, c2, c4]
    | simp (singlePass := true) (maxDischargeDepth := 99) only [*, S2, Nat.reduceLT, siteC, windowV, hw1, hw2, c1, c2, c4])
            · have hq2 : Hid (∀ j (hj : j < x.windows.length), j < k + 1 → windowT s x.windows[j] = true) := hnx.out (by rw [hst, c1, c2, c4]; rfl)
              clear hf9 hnx hst
              (repeat' first
    | with_reducible first | exact ⟨⟩ | (refine gB ?_; intros) | refine gT ?_ ?_
    | refine gs ?_
    | ((with_reducible refine at_q 62 ?_); refine qret_k (fun _ _ _ => hct _ FR _) ?_)
    | ((with_reducible refine at_q 61 ?_); refine qret_k (fun _ _ _ => ref23from) ?_)
    | simp (maxDischargeDepth := 3) only [↓X, ↓Y, ↓Q, S1, ↓reduceIte, Nat.reduceEqDiff, Nat.reduceAdd, Int.reduceLT, Int.reduceLE, Int.reduceNeg, Int.reduceBEq, Int.reduceBNe, Int.reduceEq, Nat.reduceLeDiff, Nat.reduceMul, Nat.reduceLT, *, siteC, windowV, hw1, hw2, c1, c2, c4]
    | simp (singlePass := true) (maxDischargeDepth := 99) only [*, S2, Nat.reduceLT, siteC, windowV, hw1, hw2, c1, c2, c4])
              refine next_k hk hlt ?_ FR
              (repeat' first
    | with_reducible first | exact ⟨⟩ | (refine gB ?_; intros) | refine gT ?_ ?_
    | refine gs ?_
    | refine sx ?_)
              all_goals exact hq2.out
      · rintro g wl nl sl bl ⟨hi, hf, hq⟩
        simp (maxDischargeDepth := 3) only [U, ↓reduceIte, Nat.reduceEqDiff, *] at hf
        have e1 : W = true := hWt.out fun k hk => hq.out k hk hk
        rw [e1]
        simp only [Bool.true_and, Bool.and_true]
        have rl := Ext.refl wl
        clear hq e1 hWf hWt
        (repeat' first
    | with_reducible first | exact ⟨⟩ | (refine gB ?_; intros) | refine gT ?_ ?_
    | refine gs ?_
    | refine sx ?_)
        refine loop_k x.areas.length (fun g0 k g _ => g 13 = .int .i64 k ∧ (g 3 = g0 3 ∧ g 10 = g0 10) ∧ Hid (∀ j (hj : j < x.areas.length), j < k → areaT s x.areas[j] = true)) KR hma ?_ ?_ ?_
        · (repeat' first
    | with_reducible first | exact ⟨⟩ | (refine gB ?_; intros) | refine gT ?_ ?_
    | refine gs ?_
    | refine sx ?_)
          exact fun j hj h => absurd h (by omega)
        · rintro k m g wm hk hlt nm sm bm hw ⟨hi, hf, hq⟩
          simp (maxDischargeDepth := 3) only [U, ↓reduceIte, Nat.reduceEqDiff, *] at hf
          have hltI : (k : Int) < (x.areas.length : Int) := by omega
          have hst : areaT s x.areas[k] = btw x.areas[k].index 0 (countF s x.areas[k].domain - 1) := rfl
          have hf9 := hRf.out k hlt
          have hw1 := hwc.out x.areas[k].domain
          have hnx : Hid (areaT s x.areas[k] = true → ∀ j (hj : j < x.areas.length), j < k + 1 → areaT s x.areas[j] = true) := fun e1 j hj hjk => by
            rcases Nat.lt_or_eq_of_le (Nat.le_of_lt_succ hjk) with h9 | rfl
            · exact hq.out j hj h9
            · exact e1
          rw [hst] at hf9
          clear hq
          cases c1 : btw x.areas[k].index 0 (countF s x.areas[k].domain - 1)
          · have e1 : R = false := hf9 c1
            rw [e1]
            clear hf9 hnx e1 hst
            (repeat' first
    | with_reducible first | exact ⟨⟩ | (refine gB ?_; intros) | refine gT ?_ ?_
    | refine gs ?_
    | ((with_reducible refine at_q 62 ?_); refine qret_k (fun _ _ _ => hct _ FR _) ?_)
    | ((with_reducible refine at_q 61 ?_); refine qret_k (fun _ _ _ => ref23from) ?_)
    | simp (maxDischargeDepth := 3) only [↓X, ↓Y, ↓Q, S1, ↓reduceIte, Nat.reduceEqDiff, Nat.reduceAdd, Int.reduceLT, Int.reduceLE, Int.reduceNeg, Int.reduceBEq, Int.reduceBNe, Int.reduceEq, Nat.reduceLeDiff, Nat.reduceMul, Nat.reduceLT, *, siteC, areaV, hw1, c1]
    | simp (singlePass := true) (maxDischargeDepth := 99) only [*, S2, Nat.reduceLT, siteC, areaV, hw1, c1])
          · have hq2 : Hid (∀ j (hj : j < x.areas.length), j < k + 1 → areaT s x.areas[j] = true) := hnx.out (by rw [hst, c1])
            clear hf9 hnx hst
            (repeat' first
    | with_reducible first | exact ⟨⟩ | (refine gB ?_; intros) | refine gT ?_ ?_
    | refine gs ?_
    | ((with_reducible refine at_q 62 ?_); refine qret_k (fun _ _ _ => hct _ FR _) ?_)
    | ((with_reducible refine at_q 61 ?_); refine qret_k (fun _ _ _ => ref23from) ?_)
    | simp (maxDischargeDepth := 3) only [↓X, ↓Y, ↓Q, S1, ↓reduceIte, Nat.reduceEqDiff, Nat.reduceAdd, Int.reduceLT, Int.reduceLE, Int.reduceNeg, Int.reduceBEq, Int.reduceBNe, Int.reduceEq, Nat.reduceLeDiff, Nat.reduceMul, Nat.reduceLT, *, siteC, areaV, hw1, c1]
    | simp (singlePass := true) (maxDischargeDepth := 99) only [*, S2, Nat.reduceLT, siteC, areaV, hw1, c1])
            refine next_k hk hlt ?_ FR
            (repeat' first
    | with_reducible first | exact ⟨⟩ | (refine gB ?_; intros) | refine gT ?_ ?_
    | refine gs ?_
    | refine sx ?_)
            all_goals exact hq2.out
        · rintro g wm nm sm bm ⟨hi, hf, hq⟩
          simp (maxDischargeDepth := 3) only [U, ↓reduceIte, Nat.reduceEqDiff, *] at hf
          have e1 : R = true := hRt.out fun k hk => hq.out k hk hk
          rw [e1]
          clear hq e1
          (repeat' first
    | with_reducible first | exact ⟨⟩ | (refine gB ?_; intros) | refine gT ?_ ?_
    | refine gs ?_
    | refine sx ?_)
end
end Go.Proofs.YtopfddchckdhgaaGreat
