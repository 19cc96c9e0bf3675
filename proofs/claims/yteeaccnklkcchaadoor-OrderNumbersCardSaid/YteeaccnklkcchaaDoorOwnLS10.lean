
/- own hands back lists that lie apart; Delete of one int. -/
import Derived.Test.YteeaccnklkcchaaDoorSame10
import Derived.Test.YteeaccnklkcchaaDoorMade10
namespace Go.Proofs.YteeaccnklkcchaaDoor
set_option linter.unusedSimpArgs false
set_option linter.unusedVariables false
open Go Go.RowKit Go.Sort
set_option maxRecDepth 100000
set_option linter.unusedSectionVars false
set_option maxHeartbeats 2000000
/-- A row of the call's own whose elements are rows of its own, each in a block of its own. -/
def OwnLS (w : World) (B : Nat) (v : Value) (ll : List (List Int)) : Prop := ∃ us : List Value, us.length = ll.length ∧ Own w B 25 1 v (us.map fun u => [u]) ∧ (∀ i (h : i < us.length), Own w B 3 1 us[i] ((ll.getD i []).map intC)) ∧ ∀ i j (hi : i < us.length) (hj : j < us.length), i ≠ j → ∀ c, us[i].ownBlock = some c → us[j].ownBlock ≠ some c
section
variable {w w' : World} {B B' b : Nat} {v : Value} {ll : List (List Int)}
theorem OwnLS.nil (w : World) (B : Nat) : OwnLS w B (.slice none 0 0) [] := ⟨[], rfl, Own.nil _ _ _ _, fun i h => absurd h (by simp), fun i j h => absurd h (by simp)⟩
theorem OwnLS.ext (h : OwnLS w B v ll) (hx : Ext w w') : OwnLS w' B v ll := by
  obtain ⟨us, h1, h2, h3, h4⟩ := h
  exact ⟨us, h1, h2.ext hx, fun i hi => (h3 i hi).ext hx, h4⟩
theorem OwnLS.more (h : OwnLS w B v ll) (hB : B' ≤ B) : OwnLS w B' v ll := by
  obtain ⟨us, h1, h2, h3, h4⟩ := h
  exact ⟨us, h1, h2.more hB, fun i hi => (h3 i hi).more hB, h4⟩
theorem OwnLS.li (h : OwnLS w B v ll) : OwnLI w B v ll := by
  obtain ⟨us, h1, h2, h3, h4⟩ := h
  exact ⟨us, h1, h2, h3⟩
theorem OwnLS.one (h : OwnLS w B v ll) : v.oneCell' = true := h.li.one
theorem appLS {w0 : World} {cp : Nat} {s u : Value} {l : List Int} {k : Value → World → Prop} (hown0 : OwnLS w0 B s ll) (hx0 : Ext w0 w) (hu0 : Own w w0.heap.size 3 1 u (l.map intC)) (hB0 : B ≤ w0.heap.size) (hb : Blk w b 25 [u]) (hbound : ll.length < 1000000000000) (hB : B ≤ w.heap.size)
    (h : ∀ v' w', Now w' → Sa B w w' → OwnLS w' B v' (ll ++ [l]) → k v' w') : appX Tryd.prog 22 22 22 s (.slice (some ⟨b, 0, none⟩) 1 cp) w k := by
  obtain ⟨us, h1, h20, h30, h4⟩ := hown0
  have h2 := h20.ext hx0
  have h3 := fun i hi => (h30 i hi).ext hx0
  have hu := hu0.more hB0
  refine append_row (e := 25) (sz := 1) (by_ := 24) (z := .slice none 0 0) (ns := [[u]]) KR KR rfl (by decide) h2 (by simpa using hb) (by simp) (by simp [hu.one]) rfl ?_ hB fun v' w' ho hg hbl hd => ?_
  · simp only [List.length_map, List.length_cons, List.length_nil, Nat.zero_add]
    have : (us.length + 1) * (24 + 1) ≤ 1000000000000 * 25 := Nat.mul_le_mul (by omega) (Nat.le_refl _)
    omega
  · have keep : ∀ {x : Value} {cs : List (List Value)}, Own w B 3 1 x cs → Own w' B 3 1 x cs := fun {x cs} hx => hx.keep fun c hc => hg.block c (hx.lt c hc).2 fun e => by
      rcases h2.1.2 with ⟨rfl, _⟩ | ⟨g, cap, cur, rfl, hbg, hgc, _⟩
      · simp [Value.ownBlock] at e
      · have hcg : c = g := by simpa [Value.ownBlock] using e
        subst hcg
        rcases hx.1.2 with ⟨rfl, _⟩ | ⟨g', cap', cur', rfl, _, hgc', _⟩
        · simp [Value.ownBlock] at hc
        · obtain rfl : g' = c := Option.some.inj hc
          have := hgc.symm.trans hgc'
          simp at this
    refine h v' w' trivial (sa_of hbl) ⟨us ++ [u], by simp [h1], by simpa using ho, fun i hi => ?_, fun i j hi hj hne c hc => ?_⟩
    rotate_left
    · have hfar : ∀ q (hq : q < us.length), us[q].ownBlock = some c → u.ownBlock ≠ some c := fun q hq e1 e2 => by
        have g1 := ((h30 q hq).lt c e1).2
        have g2 := (hu0.lt c e2).1
        omega
      simp only [List.length_append, List.length_cons, List.length_nil, Nat.zero_add] at hi hj
      by_cases c1 : i < us.length <;> by_cases c2 : j < us.length
      · rw [List.getElem_append_left c1] at hc
        rw [List.getElem_append_left c2]
        exact h4 i j c1 c2 hne c hc
      · rw [List.getElem_append_left c1] at hc
        rw [List.getElem_append_right (by omega)]
        simpa using hfar i c1 hc
      · rw [List.getElem_append_right (by omega)] at hc
        rw [List.getElem_append_left c2]
        intro e
        exact hfar j c2 e (by simpa using hc)
      · omega
    by_cases hlt : i < us.length
    · rw [List.getElem_append_left hlt]
      have hil : i < ll.length := by omega
      have := keep (h3 i hlt)
      simpa [List.getD_eq_getElem?_getD, List.getElem?_append_left hil] using this
    · have hie : i = us.length := by simp at hi; omega
      subst hie
      rw [List.getElem_append_right (Nat.le_refl _)]
      have := keep hu
      simpa [List.getD_eq_getElem?_getD, h1] using this
end
section
variable {w : World} {B : Nat} {av : Value} {vs : List Value} {after : List (List Int)}
theorem law10ownS (hB : B ≤ w.heap.size) (hv : LLR w B av vs after) : CallsV Tryd.prog 27 #[av] w fun r w' => Ext w w' ∧ OwnLS w' w.heap.size r (ownA after) := by
  have hn : Now w := trivial
  have hx : Ext w w := Ext.refl w
  have hl := hv.len_
  have hmax := hv.max_
  have hg := fun w' (h : Bl B w w') (k : Nat) (hk : k < after.length) => (hv.blz h).get hk
  replace hg : Hid _ := hg
  have hbw : Bl B w w := Bl.refl hB
  (refine callsV_of Tryd.func27 rfl KR KR ?_; rw [Tryd.results27])
  (repeat' first
    | ((with_reducible refine at_row ?_); refine row1_a fun _ _ _ _ _ _ _ => ?_)
    | with_reducible first | (first | apply alloc_k | apply row_k); intro _ _ _ _ _ _ | (first | apply fork | apply forkp) <;> intro _ | refine forke (fun _ => ?_) fun _ _ => ?_ | refine tail_k fun _ _ _ => ?_ | refine ext_k fun _ _ _ => ?_ | refine need_a ?_ | refine st_agg KR rfl ON fun _ _ _ _ => ?_ | refine wpd_q_a ?_
    | simp (maxDischargeDepth := 3) only [↓X, ↓Y, ↓Q, S1, ↓reduceIte, Nat.reduceEqDiff, Nat.reduceAdd, Int.reduceLT, Int.reduceLE, Int.reduceNeg, Int.reduceBEq, Int.reduceBNe, Int.reduceEq, Nat.reduceLeDiff, Nat.reduceMul, Nat.reduceLT, *]
    | simp (singlePass := true) (maxDischargeDepth := 99) only [*, S2, Nat.reduceLT])
  refine loop_o (min after.length 13) (fun w0 g0 k g w' => g 4 = .int .i64 k ∧ (g 0 = g0 0) ∧ ∃ o, g 3 = o ∧ OwnLS w' w0.heap.size o ((ownA after).take k)) KR (by omega) ?_ ?_ ?_
  · (repeat' first
    | ((with_reducible refine at_row ?_); refine row1_a fun _ _ _ _ _ _ _ => ?_)
    | with_reducible first | (first | apply alloc_k | apply row_k); intro _ _ _ _ _ _ | (first | apply fork | apply forkp) <;> intro _ | refine forke (fun _ => ?_) fun _ _ => ?_ | refine tail_k fun _ _ _ => ?_ | refine ext_k fun _ _ _ => ?_ | refine need_a ?_ | refine st_agg KR rfl ON fun _ _ _ _ => ?_ | refine wpd_q_a ?_
    | simp (maxDischargeDepth := 3) only [↓X, ↓Y, ↓Q, S1, ↓reduceIte, Nat.reduceEqDiff, Nat.reduceAdd, Int.reduceLT, Int.reduceLE, Int.reduceNeg, Int.reduceBEq, Int.reduceBNe, Int.reduceEq, Nat.reduceLeDiff, Nat.reduceMul, Nat.reduceLT, *]
    | simp (singlePass := true) (maxDischargeDepth := 99) only [*, S2, Nat.reduceLT])
    exact ⟨_, rfl, OwnLS.nil _ _⟩
  · rintro k m g wk hk hlt nk sk bk hw ⟨hi, hf, o, ho3, hown⟩
    simp (maxDischargeDepth := 3) only [U, ↓reduceIte, Nat.reduceEqDiff, *] at hf
    have hka : k < after.length := by omega
    have hka1 : ((k : Int) < (after.length : Int)) := by omega
    have hka2 : ((k : Int) < 13) := by omega
    obtain ⟨z, hz, hsz⟩ := hg.out wk FR k hka
    have hzk := hsz.k FR
    have hkv : k < vs.length := by rw [hv.len]; exact hka
    have hz9 : ∀ w', Bl B wk w' → rdv none w' (elemAt av 1 k) = some z := fun w' h => by
      have h0 : Bl B w wk := FR
      have h1 := (hv.v.bl h0).rd k hkv
      have h2 := ((hv.v.bl h0).bl h).rd k hkv
      rw [h2, ← h1, hz]
    have hmin : (if (14 : Int) < (after[k].length : Int) then (14 : Int) else (after[k].length : Int)) = ((min after[k].length 14 : Nat) : Int) := by split <;> omega
    have oo := hown.one
    have rk := Ext.refl wk
    have hOx := fun w' (h : Ext wk w') => hown.ext h
    replace hOx : Hid _ := hOx
    have hBk : B ≤ wk.heap.size := FR
    have htk : (ownA after).take (k + 1) = (ownA after).take k ++ [after[k].take 14] := by
      have hl9 : (ownA after).length = min 13 after.length := by simp [ownA]
      rw [appLL_take (by omega)]
      simp [ownA]
    have hkl : ((ownA after).take k).length < 1000000000000 := by rw [List.length_take]; omega
    have hsl : ∀ w', Bl B wk w' → Sl w' B none 1 z (after[k].map intV) := fun w' h => hsz.bl h
    replace hsl : Hid _ := hsl
    have bbk : Bl B wk wk := Bl.refl hBk
    have hmm : min after[k].length 14 ≤ (after[k].map intV).length := by rw [List.length_map]; omega
    replace htk : Hid _ := htk
    have hct : (after[k].take (min after[k].length 14)) = after[k].take 14 := by rw [← List.take_take, List.take_of_length_le (i := after[k].length)]; simp; omega
    replace hct : Hid _ := hct
    have hcz : Hid (∀ w', Bl B wk w' → Sl w' B none 1 (cutV 1 z 0 (min after[k].length 14) (capN z)) ((after[k].take 14).map intV)) := fun w' h => by
      have h3 := (hsl.out w' h).hi hmm
      rw [← List.map_take, hct.out] at h3
      exact h3
    have hownS : Hid _ := hown
    clear hown
    (repeat' first
    | ((with_reducible refine wpd_at 5 ?_); refine wpd_hold ?_)
    | ((with_reducible refine at_row ?_); refine row1_a fun _ _ _ _ _ _ _ => ?_)
    | with_reducible first | (first | apply alloc_k | apply row_k); intro _ _ _ _ _ _ | (first | apply fork | apply forkp) <;> intro _ | refine forke (fun _ => ?_) fun _ _ => ?_ | refine tail_k fun _ _ _ => ?_ | refine ext_k fun _ _ _ => ?_ | refine need_a ?_ | refine st_agg KR rfl ON fun _ _ _ _ => ?_ | refine wpd_q_a ?_
    | simp (maxDischargeDepth := 3) only [↓X, ↓Y, ↓Q, S1, ↓reduceIte, Nat.reduceEqDiff, Nat.reduceAdd, Int.reduceLT, Int.reduceLE, Int.reduceNeg, Int.reduceBEq, Int.reduceBNe, Int.reduceEq, Nat.reduceLeDiff, Nat.reduceMul, Nat.reduceLT, *]
    | simp (singlePass := true) (maxDischargeDepth := 99) only [*, S2, Nat.reduceLT])
    unfold wpdH
    refine wpd_rel 14 (fun iI v w9 => match iI with
      | 0 => v = o
      | 1 => v = av
      | 2 => v = .int .i64 (k : Nat)
      | 3 => v = elemAt av 1 k
      | 4 => v = z
      | 5 => v = av
      | 6 => v = .int .i64 (k : Nat)
      | 7 => v = elemAt av 1 k
      | 8 => v = z
      | 9 => v = .int .i64 (after[k].length : Nat)
      | 10 => v = .int .i64 (min after[k].length 14 : Nat)
      | 11 => v = cutV 1 z 0 (min after[k].length 14) (capN z)
      | 12 => Own w9 wk.heap.size 3 1 v ((after[k].take 14).map intC)
      | 13 => (∃ b u, v = .slice (some ⟨b, 0, none⟩) 1 1 ∧ Blk w9 b 25 [u] ∧ Own w9 wk.heap.size 3 1 u ((after[k].take 14).map intC))
      | _ => False) KR KR KR ?_ ?_ ?_
    · intro iI v w1 w2 hR hx9
      match iI, hR with
      | 0, h => exact h
      | 1, h => exact h
      | 2, h => exact h
      | 3, h => exact h
      | 4, h => exact h
      | 5, h => exact h
      | 6, h => exact h
      | 7, h => exact h
      | 8, h => exact h
      | 9, h => exact h
      | 10, h => exact h
      | 11, h => exact h
      | 12, h => exact Own.ext h hx9
      | 13, h => exact (let ⟨b, u, e, h1, h2⟩ := h; ⟨b, u, e, h1.ext hx9, h2.ext hx9⟩)
    · intro iI oO hi ho gF w9 hx9 hdep hag
      have s9 := hx9.st
      have n9 : Now w9 := trivial
      have r9 := Ext.refl w9
      have z9 := hx9.size
      rcases iI with _|_|_|_|_|_|_|_|_|_|_|_|_|_|iI
      · have e := Option.some.inj ho
        subst e
        have a3 := hag.at 3 KR
        simp only [S5, ↓reduceIte, Nat.reduceEqDiff, initF, *] at a3
        clear hag hdep ho
        refine relStep_off rfl ?_
        (repeat' first
    | refine sl_hi (hsl.out _ FR) hmm ?_
    | ((with_reducible refine at_row ?_); refine row1_a fun _ _ _ _ _ _ _ => ?_)
    | with_reducible first | (first | apply alloc_k | apply row_k); intro _ _ _ _ _ _ | (first | apply fork | apply forkp) <;> intro _ | refine forke (fun _ => ?_) fun _ _ => ?_ | refine tail_k fun _ _ _ => ?_ | refine ext_k fun _ _ _ => ?_ | refine need_a ?_ | refine st_agg KR rfl ON fun _ _ _ _ => ?_ | refine wpd_q_a ?_
    | simp (maxDischargeDepth := 3) only [↓X, ↓Y, ↓Q, S1, ↓reduceIte, Nat.reduceEqDiff, Nat.reduceAdd, Int.reduceLT, Int.reduceLE, Int.reduceNeg, Int.reduceBEq, Int.reduceBNe, Int.reduceEq, Nat.reduceLeDiff, Nat.reduceMul, Nat.reduceLT, *, hmin]
    | simp (singlePass := true) (maxDischargeDepth := 99) only [*, S2, Nat.reduceLT, hmin])
      · have e := Option.some.inj ho
        subst e
        have a0 := hag.at 0 KR
        simp only [S5, ↓reduceIte, Nat.reduceEqDiff, initF, *] at a0
        clear hag hdep ho
        refine relStep_off rfl ?_
        (repeat' first
    | refine sl_hi (hsl.out _ FR) hmm ?_
    | ((with_reducible refine at_row ?_); refine row1_a fun _ _ _ _ _ _ _ => ?_)
    | with_reducible first | (first | apply alloc_k | apply row_k); intro _ _ _ _ _ _ | (first | apply fork | apply forkp) <;> intro _ | refine forke (fun _ => ?_) fun _ _ => ?_ | refine tail_k fun _ _ _ => ?_ | refine ext_k fun _ _ _ => ?_ | refine need_a ?_ | refine st_agg KR rfl ON fun _ _ _ _ => ?_ | refine wpd_q_a ?_
    | simp (maxDischargeDepth := 3) only [↓X, ↓Y, ↓Q, S1, ↓reduceIte, Nat.reduceEqDiff, Nat.reduceAdd, Int.reduceLT, Int.reduceLE, Int.reduceNeg, Int.reduceBEq, Int.reduceBNe, Int.reduceEq, Nat.reduceLeDiff, Nat.reduceMul, Nat.reduceLT, *, hmin]
    | simp (singlePass := true) (maxDischargeDepth := 99) only [*, S2, Nat.reduceLT, hmin])
      · have e := Option.some.inj ho
        subst e
        have a4 := hag.at 4 KR
        simp only [S5, ↓reduceIte, Nat.reduceEqDiff, initF, *] at a4
        clear hag hdep ho
        refine relStep_off rfl ?_
        (repeat' first
    | refine sl_hi (hsl.out _ FR) hmm ?_
    | ((with_reducible refine at_row ?_); refine row1_a fun _ _ _ _ _ _ _ => ?_)
    | with_reducible first | (first | apply alloc_k | apply row_k); intro _ _ _ _ _ _ | (first | apply fork | apply forkp) <;> intro _ | refine forke (fun _ => ?_) fun _ _ => ?_ | refine tail_k fun _ _ _ => ?_ | refine ext_k fun _ _ _ => ?_ | refine need_a ?_ | refine st_agg KR rfl ON fun _ _ _ _ => ?_ | refine wpd_q_a ?_
    | simp (maxDischargeDepth := 3) only [↓X, ↓Y, ↓Q, S1, ↓reduceIte, Nat.reduceEqDiff, Nat.reduceAdd, Int.reduceLT, Int.reduceLE, Int.reduceNeg, Int.reduceBEq, Int.reduceBNe, Int.reduceEq, Nat.reduceLeDiff, Nat.reduceMul, Nat.reduceLT, *, hmin]
    | simp (singlePass := true) (maxDischargeDepth := 99) only [*, S2, Nat.reduceLT, hmin])
      · have e := Option.some.inj ho
        subst e
        have d1 : (gF 16) = av := hdep ⟨1, .data⟩ (by simp) rfl _ _ rfl rfl
        have d2 : (gF 17) = .int .i64 (k : Nat) := hdep ⟨2, .data⟩ (by simp) rfl _ _ rfl rfl
        clear hag hdep ho
        refine relStep_off rfl ?_
        (repeat' first
    | refine sl_hi (hsl.out _ FR) hmm ?_
    | ((with_reducible refine at_row ?_); refine row1_a fun _ _ _ _ _ _ _ => ?_)
    | with_reducible first | (first | apply alloc_k | apply row_k); intro _ _ _ _ _ _ | (first | apply fork | apply forkp) <;> intro _ | refine forke (fun _ => ?_) fun _ _ => ?_ | refine tail_k fun _ _ _ => ?_ | refine ext_k fun _ _ _ => ?_ | refine need_a ?_ | refine st_agg KR rfl ON fun _ _ _ _ => ?_ | refine wpd_q_a ?_
    | simp (maxDischargeDepth := 3) only [↓X, ↓Y, ↓Q, S1, ↓reduceIte, Nat.reduceEqDiff, Nat.reduceAdd, Int.reduceLT, Int.reduceLE, Int.reduceNeg, Int.reduceBEq, Int.reduceBNe, Int.reduceEq, Nat.reduceLeDiff, Nat.reduceMul, Nat.reduceLT, *, hmin]
    | simp (singlePass := true) (maxDischargeDepth := 99) only [*, S2, Nat.reduceLT, hmin])
      · have e := Option.some.inj ho
        subst e
        have d3 : (gF 18) = elemAt av 1 k := hdep ⟨3, .data⟩ (by simp) rfl _ _ rfl rfl
        clear hag hdep ho
        refine relStep_off rfl ?_
        (repeat' first
    | refine sl_hi (hsl.out _ FR) hmm ?_
    | ((with_reducible refine at_row ?_); refine row1_a fun _ _ _ _ _ _ _ => ?_)
    | with_reducible first | (first | apply alloc_k | apply row_k); intro _ _ _ _ _ _ | (first | apply fork | apply forkp) <;> intro _ | refine forke (fun _ => ?_) fun _ _ => ?_ | refine tail_k fun _ _ _ => ?_ | refine ext_k fun _ _ _ => ?_ | refine need_a ?_ | refine st_agg KR rfl ON fun _ _ _ _ => ?_ | refine wpd_q_a ?_
    | simp (maxDischargeDepth := 3) only [↓X, ↓Y, ↓Q, S1, ↓reduceIte, Nat.reduceEqDiff, Nat.reduceAdd, Int.reduceLT, Int.reduceLE, Int.reduceNeg, Int.reduceBEq, Int.reduceBNe, Int.reduceEq, Nat.reduceLeDiff, Nat.reduceMul, Nat.reduceLT, *, hmin]
    | simp (singlePass := true) (maxDischargeDepth := 99) only [*, S2, Nat.reduceLT, hmin])
      · have e := Option.some.inj ho
        subst e
        have a0 := hag.at 0 KR
        simp only [S5, ↓reduceIte, Nat.reduceEqDiff, initF, *] at a0
        clear hag hdep ho
        refine relStep_off rfl ?_
        (repeat' first
    | refine sl_hi (hsl.out _ FR) hmm ?_
    | ((with_reducible refine at_row ?_); refine row1_a fun _ _ _ _ _ _ _ => ?_)
    | with_reducible first | (first | apply alloc_k | apply row_k); intro _ _ _ _ _ _ | (first | apply fork | apply forkp) <;> intro _ | refine forke (fun _ => ?_) fun _ _ => ?_ | refine tail_k fun _ _ _ => ?_ | refine ext_k fun _ _ _ => ?_ | refine need_a ?_ | refine st_agg KR rfl ON fun _ _ _ _ => ?_ | refine wpd_q_a ?_
    | simp (maxDischargeDepth := 3) only [↓X, ↓Y, ↓Q, S1, ↓reduceIte, Nat.reduceEqDiff, Nat.reduceAdd, Int.reduceLT, Int.reduceLE, Int.reduceNeg, Int.reduceBEq, Int.reduceBNe, Int.reduceEq, Nat.reduceLeDiff, Nat.reduceMul, Nat.reduceLT, *, hmin]
    | simp (singlePass := true) (maxDischargeDepth := 99) only [*, S2, Nat.reduceLT, hmin])
      · have e := Option.some.inj ho
        subst e
        have a4 := hag.at 4 KR
        simp only [S5, ↓reduceIte, Nat.reduceEqDiff, initF, *] at a4
        clear hag hdep ho
        refine relStep_off rfl ?_
        (repeat' first
    | refine sl_hi (hsl.out _ FR) hmm ?_
    | ((with_reducible refine at_row ?_); refine row1_a fun _ _ _ _ _ _ _ => ?_)
    | with_reducible first | (first | apply alloc_k | apply row_k); intro _ _ _ _ _ _ | (first | apply fork | apply forkp) <;> intro _ | refine forke (fun _ => ?_) fun _ _ => ?_ | refine tail_k fun _ _ _ => ?_ | refine ext_k fun _ _ _ => ?_ | refine need_a ?_ | refine st_agg KR rfl ON fun _ _ _ _ => ?_ | refine wpd_q_a ?_
    | simp (maxDischargeDepth := 3) only [↓X, ↓Y, ↓Q, S1, ↓reduceIte, Nat.reduceEqDiff, Nat.reduceAdd, Int.reduceLT, Int.reduceLE, Int.reduceNeg, Int.reduceBEq, Int.reduceBNe, Int.reduceEq, Nat.reduceLeDiff, Nat.reduceMul, Nat.reduceLT, *, hmin]
    | simp (singlePass := true) (maxDischargeDepth := 99) only [*, S2, Nat.reduceLT, hmin])
      · have e := Option.some.inj ho
        subst e
        have d5 : (gF 20) = av := hdep ⟨5, .data⟩ (by simp) rfl _ _ rfl rfl
        have d6 : (gF 21) = .int .i64 (k : Nat) := hdep ⟨6, .data⟩ (by simp) rfl _ _ rfl rfl
        clear hag hdep ho
        refine relStep_off rfl ?_
        (repeat' first
    | refine sl_hi (hsl.out _ FR) hmm ?_
    | ((with_reducible refine at_row ?_); refine row1_a fun _ _ _ _ _ _ _ => ?_)
    | with_reducible first | (first | apply alloc_k | apply row_k); intro _ _ _ _ _ _ | (first | apply fork | apply forkp) <;> intro _ | refine forke (fun _ => ?_) fun _ _ => ?_ | refine tail_k fun _ _ _ => ?_ | refine ext_k fun _ _ _ => ?_ | refine need_a ?_ | refine st_agg KR rfl ON fun _ _ _ _ => ?_ | refine wpd_q_a ?_
    | simp (maxDischargeDepth := 3) only [↓X, ↓Y, ↓Q, S1, ↓reduceIte, Nat.reduceEqDiff, Nat.reduceAdd, Int.reduceLT, Int.reduceLE, Int.reduceNeg, Int.reduceBEq, Int.reduceBNe, Int.reduceEq, Nat.reduceLeDiff, Nat.reduceMul, Nat.reduceLT, *, hmin]
    | simp (singlePass := true) (maxDischargeDepth := 99) only [*, S2, Nat.reduceLT, hmin])
      · have e := Option.some.inj ho
        subst e
        have d7 : (gF 22) = elemAt av 1 k := hdep ⟨7, .data⟩ (by simp) rfl _ _ rfl rfl
        clear hag hdep ho
        refine relStep_off rfl ?_
        (repeat' first
    | refine sl_hi (hsl.out _ FR) hmm ?_
    | ((with_reducible refine at_row ?_); refine row1_a fun _ _ _ _ _ _ _ => ?_)
    | with_reducible first | (first | apply alloc_k | apply row_k); intro _ _ _ _ _ _ | (first | apply fork | apply forkp) <;> intro _ | refine forke (fun _ => ?_) fun _ _ => ?_ | refine tail_k fun _ _ _ => ?_ | refine ext_k fun _ _ _ => ?_ | refine need_a ?_ | refine st_agg KR rfl ON fun _ _ _ _ => ?_ | refine wpd_q_a ?_
    | simp (maxDischargeDepth := 3) only [↓X, ↓Y, ↓Q, S1, ↓reduceIte, Nat.reduceEqDiff, Nat.reduceAdd, Int.reduceLT, Int.reduceLE, Int.reduceNeg, Int.reduceBEq, Int.reduceBNe, Int.reduceEq, Nat.reduceLeDiff, Nat.reduceMul, Nat.reduceLT, *, hmin]
    | simp (singlePass := true) (maxDischargeDepth := 99) only [*, S2, Nat.reduceLT, hmin])
      · have e := Option.some.inj ho
        subst e
        have d8 : (gF 23) = z := hdep ⟨8, .data⟩ (by simp) rfl _ _ rfl rfl
        clear hag hdep ho
        refine relStep_off rfl ?_
        (repeat' first
    | refine sl_hi (hsl.out _ FR) hmm ?_
    | ((with_reducible refine at_row ?_); refine row1_a fun _ _ _ _ _ _ _ => ?_)
    | with_reducible first | (first | apply alloc_k | apply row_k); intro _ _ _ _ _ _ | (first | apply fork | apply forkp) <;> intro _ | refine forke (fun _ => ?_) fun _ _ => ?_ | refine tail_k fun _ _ _ => ?_ | refine ext_k fun _ _ _ => ?_ | refine need_a ?_ | refine st_agg KR rfl ON fun _ _ _ _ => ?_ | refine wpd_q_a ?_
    | simp (maxDischargeDepth := 3) only [↓X, ↓Y, ↓Q, S1, ↓reduceIte, Nat.reduceEqDiff, Nat.reduceAdd, Int.reduceLT, Int.reduceLE, Int.reduceNeg, Int.reduceBEq, Int.reduceBNe, Int.reduceEq, Nat.reduceLeDiff, Nat.reduceMul, Nat.reduceLT, *, hmin]
    | simp (singlePass := true) (maxDischargeDepth := 99) only [*, S2, Nat.reduceLT, hmin])
      · have e := Option.some.inj ho
        subst e
        have d9 : (gF 24) = .int .i64 (after[k].length : Nat) := hdep ⟨9, .data⟩ (by simp) rfl _ _ rfl rfl
        clear hag hdep ho
        refine relStep_off rfl ?_
        (repeat' first
    | refine sl_hi (hsl.out _ FR) hmm ?_
    | ((with_reducible refine at_row ?_); refine row1_a fun _ _ _ _ _ _ _ => ?_)
    | with_reducible first | (first | apply alloc_k | apply row_k); intro _ _ _ _ _ _ | (first | apply fork | apply forkp) <;> intro _ | refine forke (fun _ => ?_) fun _ _ => ?_ | refine tail_k fun _ _ _ => ?_ | refine ext_k fun _ _ _ => ?_ | refine need_a ?_ | refine st_agg KR rfl ON fun _ _ _ _ => ?_ | refine wpd_q_a ?_
    | simp (maxDischargeDepth := 3) only [↓X, ↓Y, ↓Q, S1, ↓reduceIte, Nat.reduceEqDiff, Nat.reduceAdd, Int.reduceLT, Int.reduceLE, Int.reduceNeg, Int.reduceBEq, Int.reduceBNe, Int.reduceEq, Nat.reduceLeDiff, Nat.reduceMul, Nat.reduceLT, *, hmin]
    | simp (singlePass := true) (maxDischargeDepth := 99) only [*, S2, Nat.reduceLT, hmin])
      · have e := Option.some.inj ho
        subst e
        have d4 : (gF 19) = z := hdep ⟨4, .data⟩ (by simp) rfl _ _ rfl rfl
        have d10 : (gF 25) = .int .i64 (min after[k].length 14 : Nat) := hdep ⟨10, .data⟩ (by simp) rfl _ _ rfl rfl
        clear hag hdep ho
        refine relStep_off rfl ?_
        (repeat' first
    | refine sl_hi (hsl.out _ FR) hmm ?_
    | ((with_reducible refine at_row ?_); refine row1_a fun _ _ _ _ _ _ _ => ?_)
    | with_reducible first | (first | apply alloc_k | apply row_k); intro _ _ _ _ _ _ | (first | apply fork | apply forkp) <;> intro _ | refine forke (fun _ => ?_) fun _ _ => ?_ | refine tail_k fun _ _ _ => ?_ | refine ext_k fun _ _ _ => ?_ | refine need_a ?_ | refine st_agg KR rfl ON fun _ _ _ _ => ?_ | refine wpd_q_a ?_
    | simp (maxDischargeDepth := 3) only [↓X, ↓Y, ↓Q, S1, ↓reduceIte, Nat.reduceEqDiff, Nat.reduceAdd, Int.reduceLT, Int.reduceLE, Int.reduceNeg, Int.reduceBEq, Int.reduceBNe, Int.reduceEq, Nat.reduceLeDiff, Nat.reduceMul, Nat.reduceLT, *, hmin]
    | simp (singlePass := true) (maxDischargeDepth := 99) only [*, S2, Nat.reduceLT, hmin])
      · have e := Option.some.inj ho
        subst e
        have d11 : (gF 26) = cutV 1 z 0 (min after[k].length 14) (capN z) := hdep ⟨11, .data⟩ (by simp) rfl _ _ rfl rfl
        clear hag hdep ho
        refine relStep_off rfl ?_
        (repeat' first
    | refine sl_hi (hsl.out _ FR) hmm ?_
    | ((with_reducible refine at_row ?_); refine row1_a fun _ _ _ _ _ _ _ => ?_)
    | with_reducible first | (first | apply alloc_k | apply row_k); intro _ _ _ _ _ _ | (first | apply fork | apply forkp) <;> intro _ | refine forke (fun _ => ?_) fun _ _ => ?_ | refine tail_k fun _ _ _ => ?_ | refine ext_k fun _ _ _ => ?_ | refine need_a ?_ | refine st_agg KR rfl ON fun _ _ _ _ => ?_ | refine wpd_q_a ?_
    | simp (maxDischargeDepth := 3) only [↓X, ↓Y, ↓Q, S1, ↓reduceIte, Nat.reduceEqDiff, Nat.reduceAdd, Int.reduceLT, Int.reduceLE, Int.reduceNeg, Int.reduceBEq, Int.reduceBNe, Int.reduceEq, Nat.reduceLeDiff, Nat.reduceMul, Nat.reduceLT, *, hmin]
    | simp (singlePass := true) (maxDischargeDepth := 99) only [*, S2, Nat.reduceLT, hmin])
        refine CallsV.mono (slicesCloneI (B := B) FR (hcz.out _ FR) (by rw [List.length_take]; omega)) fun v w10 hh => ⟨hh.1, Own.more hh.2 z9⟩
      · have e := Option.some.inj ho
        subst e
        have d12 : Own w9 wk.heap.size 3 1 (gF 27) ((after[k].take 14).map intC) := hdep ⟨12, .data⟩ (by simp) rfl _ _ rfl rfl
        have O12 := d12.o
        clear hag hdep ho
        refine relStep_off rfl ?_
        (repeat' first
    | refine sl_hi (hsl.out _ FR) hmm ?_
    | ((with_reducible refine at_row ?_); refine row1_a fun _ _ _ _ _ _ _ => ?_)
    | with_reducible first | (first | apply alloc_k | apply row_k); intro _ _ _ _ _ _ | (first | apply fork | apply forkp) <;> intro _ | refine forke (fun _ => ?_) fun _ _ => ?_ | refine tail_k fun _ _ _ => ?_ | refine ext_k fun _ _ _ => ?_ | refine need_a ?_ | refine st_agg KR rfl ON fun _ _ _ _ => ?_ | refine wpd_q_a ?_
    | simp (maxDischargeDepth := 3) only [↓X, ↓Y, ↓Q, S1, ↓reduceIte, Nat.reduceEqDiff, Nat.reduceAdd, Int.reduceLT, Int.reduceLE, Int.reduceNeg, Int.reduceBEq, Int.reduceBNe, Int.reduceEq, Nat.reduceLeDiff, Nat.reduceMul, Nat.reduceLT, *, hmin]
    | simp (singlePass := true) (maxDischargeDepth := 99) only [*, S2, Nat.reduceLT, hmin])
        rename_i b10 w10 n10 k10 s10 q10 l10
        exact ⟨b10, _, rfl, k10.2.1 _ k10.2.2.1, O12.1 _ FR⟩
      · omega
    · intro g9 w9 hx9 hR hag
      have s9 := hx9.st
      have n9 : Now w9 := trivial
      have r9 := Ext.refl w9
      have z9 := hx9.size
      have d0 : (g9 15) = o := hR 0 _ _ (by decide) rfl rfl
      have d13 : (∃ b u, (g9 28) = .slice (some ⟨b, 0, none⟩) 1 1 ∧ Blk w9 b 25 [u] ∧ Own w9 wk.heap.size 3 1 u ((after[k].take 14).map intC)) := hR 13 _ _ (by decide) rfl rfl
      obtain ⟨b13, u13, e13, hb13, ho13⟩ := d13
      have a0 := hag.at 0 KR
      have a4 := hag.at 4 KR
      simp only [S5, ↓reduceIte, Nat.reduceEqDiff, initF, *] at a0 a4
      clear hag hR
      simp only [List.drop_succ_cons, List.drop_zero]
      (repeat' first
    | ((with_reducible refine at_row ?_); refine row1_a fun _ _ _ _ _ _ _ => ?_)
    | with_reducible first | (first | apply alloc_k | apply row_k); intro _ _ _ _ _ _ | (first | apply fork | apply forkp) <;> intro _ | refine forke (fun _ => ?_) fun _ _ => ?_ | refine tail_k fun _ _ _ => ?_ | refine ext_k fun _ _ _ => ?_ | refine need_a ?_ | refine st_agg KR rfl ON fun _ _ _ _ => ?_ | refine wpd_q_a ?_
    | simp (maxDischargeDepth := 3) only [↓X, ↓Y, ↓Q, S1, ↓reduceIte, Nat.reduceEqDiff, Nat.reduceAdd, Int.reduceLT, Int.reduceLE, Int.reduceNeg, Int.reduceBEq, Int.reduceBNe, Int.reduceEq, Nat.reduceLeDiff, Nat.reduceMul, Nat.reduceLT, *]
    | simp (singlePass := true) (maxDischargeDepth := 99) only [*, S2, Nat.reduceLT])
      refine appLS hownS.out hx9 ho13 FR hb13 hkl FR fun v' w11 n11 s11 hown11 => ?_
      rw [← htk.out] at hown11
      have hO9 : Hid _ := hown11
      clear hown11
      (repeat' first
    | ((with_reducible refine at_row ?_); refine row1_a fun _ _ _ _ _ _ _ => ?_)
    | with_reducible first | (first | apply alloc_k | apply row_k); intro _ _ _ _ _ _ | (first | apply fork | apply forkp) <;> intro _ | refine forke (fun _ => ?_) fun _ _ => ?_ | refine tail_k fun _ _ _ => ?_ | refine ext_k fun _ _ _ => ?_ | refine need_a ?_ | refine st_agg KR rfl ON fun _ _ _ _ => ?_ | refine wpd_q_a ?_
    | simp (maxDischargeDepth := 3) only [↓X, ↓Y, ↓Q, S1, ↓reduceIte, Nat.reduceEqDiff, Nat.reduceAdd, Int.reduceLT, Int.reduceLE, Int.reduceNeg, Int.reduceBEq, Int.reduceBNe, Int.reduceEq, Nat.reduceLeDiff, Nat.reduceMul, Nat.reduceLT, *]
    | simp (singlePass := true) (maxDischargeDepth := 99) only [*, S2, Nat.reduceLT])
      refine next_k hk hlt ?_ FR
      (repeat' first
    | ((with_reducible refine at_row ?_); refine row1_a fun _ _ _ _ _ _ _ => ?_)
    | with_reducible first | (first | apply alloc_k | apply row_k); intro _ _ _ _ _ _ | (first | apply fork | apply forkp) <;> intro _ | refine forke (fun _ => ?_) fun _ _ => ?_ | refine tail_k fun _ _ _ => ?_ | refine ext_k fun _ _ _ => ?_ | refine need_a ?_ | refine st_agg KR rfl ON fun _ _ _ _ => ?_ | refine wpd_q_a ?_
    | simp (maxDischargeDepth := 3) only [↓X, ↓Y, ↓Q, S1, ↓reduceIte, Nat.reduceEqDiff, Nat.reduceAdd, Int.reduceLT, Int.reduceLE, Int.reduceNeg, Int.reduceBEq, Int.reduceBNe, Int.reduceEq, Nat.reduceLeDiff, Nat.reduceMul, Nat.reduceLT, *]
    | simp (singlePass := true) (maxDischargeDepth := 99) only [*, S2, Nat.reduceLT])
      exact ⟨_, rfl, hO9.out⟩
  · rintro g wk nk sk bk ⟨hi, hf, o, ho3, hown⟩
    simp (maxDischargeDepth := 3) only [U, ↓reduceIte, Nat.reduceEqDiff, *] at hf
    have hl9 : (ownA after).length = min after.length 13 := by simp [ownA]; omega
    rw [← hl9, List.take_length] at hown
    have oo := hown.one
    have rk := Ext.refl wk
    have hO : Hid _ := hown
    clear hown
    by_cases hka : after.length < 13
    · have hm : min after.length 13 = after.length := by omega
      have h1 : ¬ ((after.length : Int) < (after.length : Int)) := by omega
      rw [hm] at hi
      (repeat' first
    | ((with_reducible refine at_row ?_); refine row1_a fun _ _ _ _ _ _ _ => ?_)
    | with_reducible first | (first | apply alloc_k | apply row_k); intro _ _ _ _ _ _ | (first | apply fork | apply forkp) <;> intro _ | refine forke (fun _ => ?_) fun _ _ => ?_ | refine tail_k fun _ _ _ => ?_ | refine ext_k fun _ _ _ => ?_ | refine need_a ?_ | refine st_agg KR rfl ON fun _ _ _ _ => ?_ | refine wpd_q_a ?_
    | simp (maxDischargeDepth := 3) only [↓X, ↓Y, ↓Q, S1, ↓reduceIte, Nat.reduceEqDiff, Nat.reduceAdd, Int.reduceLT, Int.reduceLE, Int.reduceNeg, Int.reduceBEq, Int.reduceBNe, Int.reduceEq, Nat.reduceLeDiff, Nat.reduceMul, Nat.reduceLT, *]
    | simp (singlePass := true) (maxDischargeDepth := 99) only [*, S2, Nat.reduceLT])
      exact OwnLS.more hO.out FR
    · have hm : min after.length 13 = 13 := by omega
      rw [hm] at hi
      have h1 : ¬ (((13 : Nat) : Int) < 13) := by omega
      (repeat' first
    | ((with_reducible refine at_row ?_); refine row1_a fun _ _ _ _ _ _ _ => ?_)
    | with_reducible first | (first | apply alloc_k | apply row_k); intro _ _ _ _ _ _ | (first | apply fork | apply forkp) <;> intro _ | refine forke (fun _ => ?_) fun _ _ => ?_ | refine tail_k fun _ _ _ => ?_ | refine ext_k fun _ _ _ => ?_ | refine need_a ?_ | refine st_agg KR rfl ON fun _ _ _ _ => ?_ | refine wpd_q_a ?_
    | simp (maxDischargeDepth := 3) only [↓X, ↓Y, ↓Q, S1, ↓reduceIte, Nat.reduceEqDiff, Nat.reduceAdd, Int.reduceLT, Int.reduceLE, Int.reduceNeg, Int.reduceBEq, Int.reduceBNe, Int.reduceEq, Nat.reduceLeDiff, Nat.reduceMul, Nat.reduceLT, *]
    | simp (singlePass := true) (maxDischargeDepth := 99) only [*, S2, Nat.reduceLT])
      all_goals exact OwnLS.more hO.out FR
end
section
variable {w : World} {B : Nat} {v : Value}
/-- Delete of one element. -/
theorem deleteIntG {l : List Int} {i : Nat} (hown : Own w B 3 1 v (l.map intC)) (hi : i < l.length) : CallsV Tryd.prog 45 #[v, .int .i64 i, .int .i64 ((i + 1 : Nat) : Int)] w fun r w' => OneRow w w' v ∧ Own w' B 3 1 r ((l.eraseIdx i).map intC) ∧ r.ownBlock = v.ownBlock := by
  have hsm : l.length ≤ 140737488355328 := by simpa using hown.small
  have hel : (l.eraseIdx i).length = l.length - 1 := List.length_eraseIdx_of_lt hi
  have het : l.take i ++ l.drop (i + 1) = l.eraseIdx i := (List.eraseIdx_eq_take_drop_succ _ _).symm
  rcases hown.1.2 with ⟨rfl, hn0⟩ | ⟨g, cap, cur, rfl, hb, hg, hc1, hc2, hsz, htk⟩
  · rw [List.length_map] at hn0
    omega
  · rw [List.length_map] at hc1 htk ⊢
    rw [flat_intC10] at htk
    refine Calls.mono (Tryd.slices_Delete_int g 0 cap i (i + 1) l w (holds_of_blockI hg (by simpa using htk)) hc1 (by simp only [maxLen] at hc2; omega) (by omega) (by omega)) ?_
    rintro e w' ⟨rfl, q, rfl⟩
    rw [het, Nat.add_sub_cancel_left]
    have hgr : w.grownBy (grow (putRow (Value.int .i64) (Sort.ahead w q) g 0 (l.eraseIdx i ++ List.replicate 1 0).toArray) #[]) (some g) := grownBy_sortedI _
    rw [grow_empty] at hgr
    refine ⟨_, rfl, ⟨hgr.os, hgr.tape, hgr.output, hgr.size, fun c hc hne => hgr.block c hc (fun e => hne (by first | exact e | exact e.symm))⟩, own_intC10 ?_ (by omega), rfl⟩
    have ho := ownsRow_sortedI (w := w) (n := q) (os := #[]) (ss := l) (ts := l.eraseIdx i ++ List.replicate 1 0) (by simp [hel]; omega) hb hg hc1 hc2 hsz
    rw [grow_empty] at ho
    rw [hel]
    rcases ho.2 with ⟨h0, _⟩ | ⟨g', cap', cur', e', hb', hg', hc1', hc2', hsz', htk'⟩
    · cases h0
    · cases e'
      refine ⟨by simp [hel], .inr ⟨_, _, cur', rfl, hb', hg', by omega, hc2', hsz', ?_⟩⟩
      rw [Nat.mul_one] at htk' ⊢
      have := congrArg (List.take (l.length - 1)) htk'
      rw [List.take_take, Nat.min_eq_left (by omega)] at this
      rw [this, List.map_append, List.take_left' (by simp [hel])]
theorem tab_ne {w : World} {o u : Value} {B B' : Nat} {cs ds : List (List Value)} {c : Nat} (h : Own w B 25 1 o cs) (k : Own w B' 3 1 u ds) (hc : o.ownBlock = some c) : u.ownBlock ≠ some c := by
  rcases h.1.2 with ⟨rfl, _⟩ | ⟨g, cap, cur, rfl, _, hg, _⟩
  · cases hc
  · obtain rfl : g = c := Option.some.inj hc
    exact k.ne (show Blk w g 25 cur.toList from hg) (by decide)
theorem tab_keep {w w' : World} {o u : Value} {B B' : Nat} {cs ds : List (List Value)} (h : Own w B 25 1 o cs) (k : Own w B' 3 1 u ds) (hx : OneRow w w' u) : Own w' B 25 1 o cs := h.keep fun c hc => hx.block c (h.lt c hc).2 (tab_ne h k hc)
theorem del_rows {w w1 w2 : World} {o r : Value} {us : List Value} {ll : List (List Int)} {l : List Int} {i b : Nat} (h1 : us.length = ll.length) (h2 : Own w B 25 1 o (us.map fun u => [u])) (h3 : ∀ i (h : i < us.length), Own w B 3 1 us[i] ((ll.getD i []).map intC)) (h4 : ∀ i j (hi : i < us.length) (hj : j < us.length), i ≠ j → ∀ c, us[i].ownBlock = some c → us[j].ownBlock ≠ some c)
    (hi : i < us.length) (ho : OneRow w w1 us[i]) (hr : Own w1 B 3 1 r (l.map intC)) (hrb : r.ownBlock = us[i].ownBlock) (hb : blockOf o = some b) (h12 : Own w2 B 25 1 o ((us.map fun u => [u]).set i [r])) (hc : Chg w1 w2 b) : OwnLI w2 B o (ll.set i l) := by
  have hob : o.ownBlock = some b := by rw [← h2.block]; exact hb
  refine ⟨us.set i r, by simp [h1], by rw [List.map_set]; exact h12, fun q hq => ?_⟩
  simp only [List.length_set] at hq
  by_cases e : i = q
  · subst e
    rw [List.getElem_set_self]
    simp only [List.getD_eq_getElem?_getD, List.getElem?_set_self (show i < ll.length by rw [← h1]; exact hq), Option.getD_some]
    exact hr.chg hc (by rw [hrb]; exact tab_ne h2 (h3 i hi) hob)
  · rw [List.getElem_set_ne e]
    simp only [List.getD_eq_getElem?_getD, List.getElem?_set_ne e]
    have k1 := (h3 q hq).keep (w' := w1) fun c hc2 => ho.block c ((h3 q hq).lt c hc2).2 fun e2 => h4 q i hq hi (fun e3 => e e3.symm) c hc2 e2
    have k2 := k1.chg hc (tab_ne h2 (h3 q hq) hob)
    simpa only [List.getD_eq_getElem?_getD] using k2
theorem OneRow.belowB {w w' : World} {v : Value} {B : Nat} {ds : List (List Value)} {e sz : Nat} (hx : OneRow w w' v) (h : Own w B e sz v ds) (hB : B ≤ w.heap.size) : Below B w w' :=
  ⟨hx.os, hx.tape, hx.output, hx.size, fun c hc => hx.block c (by omega) fun e => by have := (h.lt c e).1; omega⟩
end
end Go.Proofs.YteeaccnklkcchaaDoor
