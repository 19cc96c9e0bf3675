
/- The laws of the layer drift: DriftFinds. -/
import Derived.Test.YtmcdgepfhpakiaaGreatLaw30c
import Derived.Test.YtmcdgepfhpakiaaGreatRef30c
namespace Go.Proofs.YtmcdgepfhpakiaaGreat
set_option linter.unusedSimpArgs false
set_option linter.unusedVariables false
open Go Go.RowKit
set_option maxRecDepth 100000
set_option linter.unusedSectionVars false
set_option maxHeartbeats 2000000
section
variable {w : World} {B sz e by_ : Nat} {k : Option Nat} {v : Value} {xs : List Value}
theorem elemAt_hi {m i : Nat} (hv : isSl v) : elemAt (cutV sz v 0 m (capN v)) sz i = elemAt v sz i := by
  cases v with
  | slice a n c =>
    cases a with
    | none => simp [cutV, elemAt]
    | some a => by_cases h : c = 0 <;> simp [cutV, elemAt, capN, h, Addr.add]
  | _ => exact hv.elim
theorem Sl.hi (h : Sl w B k sz v xs) {m : Nat} (hm : m ≤ xs.length) : Sl w B k sz (cutV sz v 0 m (capN v)) (xs.take m) := by
  have hs := h.sl
  have hlen := h.len
  have hcap := h.cap
  have hmax := h.max
  have hl : (xs.take m).length = m := by rw [List.length_take]; omega
  have hwf := h.wf
  have hlt := h.lt
  have hcut : SlWf (cutV sz v 0 m (capN v)) ∧ lenN (cutV sz v 0 m (capN v)) = m ∧ capN (cutV sz v 0 m (capN v)) = capN v ∧ blockOf (cutV sz v 0 m (capN v)) = blockOf v := by
    cases v with
    | slice a n c =>
      cases a with
      | none =>
        simp only [SlWf] at hwf
        simp only [lenN] at hlen
        have hm0 : m = 0 := by omega
        simp [cutV, SlWf, lenN, capN, blockOf, hm0]
      | some a => by_cases h0 : c = 0 <;> simp [cutV, SlWf, lenN, capN, blockOf, h0, Addr.add]
    | _ => exact hs.elim
  obtain ⟨c1, c2, c3, c4⟩ := hcut
  refine ⟨c1, by rw [c2, hl], by rw [c2, c3]; omega, by rw [c3]; exact hmax, fun b hb h0 => hlt b (by rw [← c4]; exact hb) (by omega), fun i hi => ?_⟩
  rw [elemAt_hi hs, h.rd i (by omega)]
  simp
theorem sl_hi (h : Sl w B k sz v xs) {m : Nat} (hm : m ≤ xs.length) {f : Value → World → Prop} (hf : f (cutV sz v 0 m (capN v)) w) : sliceX (some (e, sz, by_)) v none (some (.int .i64 (m : Nat))) none w f := by
  simp only [sliceX, Int.toNat_natCast]
  have h1 := h.cap
  have h2 := h.len
  refine need ⟨h.sl, by omega, by omega⟩ hf
end
theorem world_upE {w : World} {B B' : Nat} {hv rv : Value} {x : WorldD} (h : WorldR w B hv rv x) (hB : B ≤ B') : WorldR w B' hv rv x := ⟨h.h.more hB, h.r.more hB⟩
section
variable {w : World} {B : Nat} {u : SiteVs} {sd : SiteD} {wv : Value} {l : List SrvV} {hv rv sv : Value} {x : WorldD} {steps : List StepD} {qb : Int}
theorem lawDriftFinds (hB : B ≤ w.heap.size) (hs : SiteR w B u sd) (hl : WishR w B wv l) (hx0 : WorldR w B hv rv x) (hst0 : Sl w B (some 4) 4 sv (steps.map stepV)) (hqb : 0 ≤ qb ∧ qb ≤ 255) : Ret Tryz.prog 4 #[.agg (siteC u sd).toArray, .agg #[wv], .agg #[hv, rv], sv, .int .u8 qb] w (.bool true) := by
  have hn : Now w := trivial
  have hx : Ext w w := Ext.refl w
  have hsk := hs.sk hB
  have hlk := hl.sk hB
  have hx' := hx0.sk hB
  have hS := hsk.2.2.2.2.2.2
  have hW := hlk.2.2
  have hX := hx'.2.2.2.2
  have hm6 : min steps.length 6 ≤ (steps.map stepV).length := by rw [List.length_map]; omega
  have hst := hst0.hi hm6
  have hsli := fun (e by_ : Nat) (f : Value → World → Prop) w' (h : Bl B w w') => sl_hi (e := e) (by_ := by_) (f := f) (hst0.bl h) hm6
  rw [← List.map_take] at hst
  have hone := hst.one
  generalize hcv : cutV 4 sv 0 (min steps.length 6) (capN sv) = cv at *
  generalize hS6 : steps.take (min steps.length 6) = S6 at *
  have h6 : S6.length ≤ 6 := by rw [← hS6, List.length_take]; omega
  have hq0 := hst0.k hB
  have hq := hst.k hB
  have hQ := fun w' (h : Bl B w w') => hst.bl h
  have hmax := hst.max_
  have bB : Bl B w w := Bl.refl hB
  have hmn : (if (6 : Int) < steps.length then (6 : Int) else steps.length) = ((min steps.length 6 : Nat) : Int) := by split <;> omega
  clear hcv hS6
  (refine callsV_of Tryz.func4 rfl KR KR ?_; rw [Tryz.results4])
  (repeat' first
    | ((with_reducible refine at_row ?_); refine row1_a fun _ _ _ _ _ _ _ => ?_)
    | with_reducible first | (first | apply alloc_k | apply row_k); intro _ _ _ _ _ _ | (first | apply fork | apply forkp) <;> intro _ | refine forke (fun _ => ?_) fun _ _ => ?_ | refine tail_k fun _ _ _ => ?_ | refine ext_k fun _ _ _ => ?_ | refine need_a ?_ | refine st_agg KR rfl ON fun _ _ _ _ => ?_ | refine wpd_q_a ?_
    | simp (maxDischargeDepth := 3) only [↓X, ↓Y, ↓Q, S1, ↓reduceIte, Nat.reduceEqDiff, Nat.reduceAdd, Int.reduceLT, Int.reduceLE, Int.reduceNeg, Int.reduceBEq, Int.reduceBNe, Int.reduceEq, Nat.reduceLeDiff, Nat.reduceMul, Nat.reduceLT, *, siteC]
    | simp (singlePass := true) (maxDischargeDepth := 99) only [*, S2, Nat.reduceLT, siteC])
  refine hsli _ _ _ _ FR ?_
  clear hsli hmn hm6 hq0
  cases hfx : few30B x
  · (repeat' first
    | ((with_reducible refine at_row ?_); refine row1_a fun _ _ _ _ _ _ _ => ?_)
    | with_reducible first | (first | apply alloc_k | apply row_k); intro _ _ _ _ _ _ | (first | apply fork | apply forkp) <;> intro _ | refine forke (fun _ => ?_) fun _ _ => ?_ | refine tail_k fun _ _ _ => ?_ | refine ext_k fun _ _ _ => ?_ | refine need_a ?_ | refine st_agg KR rfl ON fun _ _ _ _ => ?_ | refine wpd_q_a ?_
    | ((with_reducible refine at_f 5 ?_); refine ret_k (few30 (B := B) (x := x) FR (hX _ FR)) fun _ _ _ => ?_)
    | ((with_reducible refine at_f 6 ?_); refine ret_k (lives30) fun _ _ _ => ?_)
    | simp (maxDischargeDepth := 3) only [↓X, ↓Y, ↓Q, S1, ↓reduceIte, Nat.reduceEqDiff, Nat.reduceAdd, Int.reduceLT, Int.reduceLE, Int.reduceNeg, Int.reduceBEq, Int.reduceBNe, Int.reduceEq, Nat.reduceLeDiff, Nat.reduceMul, Nat.reduceLT, *, siteC]
    | simp (singlePass := true) (maxDischargeDepth := 99) only [*, S2, Nat.reduceLT, siteC])
  cases hask : askB sd (l.map (·.x)) x S6 x
  · (repeat' first
    | ((with_reducible refine at_row ?_); refine row1_a fun _ _ _ _ _ _ _ => ?_)
    | with_reducible first | (first | apply alloc_k | apply row_k); intro _ _ _ _ _ _ | (first | apply fork | apply forkp) <;> intro _ | refine forke (fun _ => ?_) fun _ _ => ?_ | refine tail_k fun _ _ _ => ?_ | refine ext_k fun _ _ _ => ?_ | refine need_a ?_ | refine st_agg KR rfl ON fun _ _ _ _ => ?_ | refine wpd_q_a ?_
    | ((with_reducible refine at_f 5 ?_); refine ret_k (few30 (B := B) (x := x) FR (hX _ FR)) fun _ _ _ => ?_)
    | ((with_reducible refine at_f 9 ?_); refine ret_k (ref30Asked (B := B) (x := x) (seen := x) FR (hS _ FR) (hW _ FR) (hX _ FR) (hQ _ FR) (hX _ FR)) fun _ _ _ => ?_)
    | ((with_reducible refine at_f 6 ?_); refine ret_k (lives30) fun _ _ _ => ?_)
    | simp (maxDischargeDepth := 3) only [↓X, ↓Y, ↓Q, S1, ↓reduceIte, Nat.reduceEqDiff, Nat.reduceAdd, Int.reduceLT, Int.reduceLE, Int.reduceNeg, Int.reduceBEq, Int.reduceBNe, Int.reduceEq, Nat.reduceLeDiff, Nat.reduceMul, Nat.reduceLT, *, siteC]
    | simp (singlePass := true) (maxDischargeDepth := 99) only [*, S2, Nat.reduceLT, siteC])
  (repeat' first
    | ((with_reducible refine at_row ?_); refine row1_a fun _ _ _ _ _ _ _ => ?_)
    | with_reducible first | (first | apply alloc_k | apply row_k); intro _ _ _ _ _ _ | (first | apply fork | apply forkp) <;> intro _ | refine forke (fun _ => ?_) fun _ _ => ?_ | refine tail_k fun _ _ _ => ?_ | refine ext_k fun _ _ _ => ?_ | refine need_a ?_ | refine st_agg KR rfl ON fun _ _ _ _ => ?_ | refine wpd_q_a ?_
    | ((with_reducible refine at_f 5 ?_); refine ret_k (few30 (B := B) (x := x) FR (hX _ FR)) fun _ _ _ => ?_)
    | ((with_reducible refine at_f 9 ?_); refine ret_k (ref30Asked (B := B) (x := x) (seen := x) FR (hS _ FR) (hW _ FR) (hX _ FR) (hQ _ FR) (hX _ FR)) fun _ _ _ => ?_)
    | ((with_reducible refine at_f 6 ?_); refine ret_k (lives30) fun _ _ _ => ?_)
    | simp (maxDischargeDepth := 3) only [↓X, ↓Y, ↓Q, S1, ↓reduceIte, Nat.reduceEqDiff, Nat.reduceAdd, Int.reduceLT, Int.reduceLE, Int.reduceNeg, Int.reduceBEq, Int.reduceBNe, Int.reduceEq, Nat.reduceLeDiff, Nat.reduceMul, Nat.reduceLT, *, siteC]
    | simp (singlePass := true) (maxDischargeDepth := 99) only [*, S2, Nat.reduceLT, siteC])
  rename_i b5 w5 n5 k5 s5 q5 b6 w6 n6 k6 s6 q6 b7 w7 n7 k7 s7 q7 wa na sa _ _ wb nb sb bx wc nc kc sc qc wS nS kx sS
  have hB11 : B ≤ bx := FR
  have hb11 : bx < wS.heap.size := FR
  have hBS : B ≤ wS.heap.size := FR
  have hxS : Ext w wS := FR
  have hw11 : w.heap.size ≤ bx := FR
  have bS : Bl B w wS := FR
  have n5' : ¬ b5 = bx := by have h1 : b5 < wb.heap.size := FR; have h2 : wb.heap.size ≤ bx := FR; omega
  have n6' : ¬ b6 = bx := by have h1 : b6 < wb.heap.size := FR; have h2 : wb.heap.size ≤ bx := FR; omega
  have n7' : ¬ b7 = bx := by have h1 : b7 < wb.heap.size := FR; have h2 : wb.heap.size ≤ bx := FR; omega
  have KX := kx.2.1 wS FR
  have hvx : validB sd (l.map (·.x)) x = true := by
    simp only [askB, Bool.and_eq_true] at hask
    exact hask.1.1.1
  clear kx hst0
  refine loop_b bx S6.length (fun g0 k g w' => g 13 = .int .i64 (k : Int) ∧ (g 3 = g0 3 ∧ g 4 = g0 4 ∧ g 5 = g0 5 ∧ g 6 = g0 6 ∧ g 7 = g0 7 ∧ g 11 = g0 11) ∧ ∃ P : List Nat, g 12 = .int .i64 (P.length : Nat) ∧ Hid (∃ y h r, Blk w' bx 36 [h, r] ∧ ((h = hv ∧ r = rv ∧ y = x) ∨ (OwnH w' wS.heap.size h y.hosts ∧ OwnP w' wS.heap.size r y.replicas)) ∧ validB sd (l.map (·.x)) y = true ∧ P.length ≤ k ∧ (∀ q ∈ P, q < k) ∧ P.Pairwise (· < ·) ∧ ∀ seen r, explB (apS sd (l.map (·.x)) S6) seen x (P ++ r) = explB (apS sd (l.map (·.x)) S6) seen y r)) KR hmax hb11 ?_ ?_ ?_
  · (repeat' first
    | ((with_reducible refine at_row ?_); refine row1_a fun _ _ _ _ _ _ _ => ?_)
    | with_reducible first | (first | apply alloc_k | apply row_k); intro _ _ _ _ _ _ | (first | apply fork | apply forkp) <;> intro _ | refine forke (fun _ => ?_) fun _ _ => ?_ | refine tail_k fun _ _ _ => ?_ | refine ext_k fun _ _ _ => ?_ | refine need_a ?_ | refine st_agg KR rfl ON fun _ _ _ _ => ?_ | refine wpd_q_a ?_
    | simp (maxDischargeDepth := 3) only [↓X, ↓Y, ↓Q, S1, ↓reduceIte, Nat.reduceEqDiff, Nat.reduceAdd, Int.reduceLT, Int.reduceLE, Int.reduceNeg, Int.reduceBEq, Int.reduceBNe, Int.reduceEq, Nat.reduceLeDiff, Nat.reduceMul, Nat.reduceLT, *]
    | simp (singlePass := true) (maxDischargeDepth := 99) only [*, S2, Nat.reduceLT])
    exact ⟨[], rfl, x, hv, rv, KX, .inl ⟨rfl, rfl, rfl⟩, hvx, Nat.le_refl _, by simp, List.Pairwise.nil, fun _ _ => rfl⟩
  · rintro k m g wk hk hlt nk sk ck hbk hw ⟨hi, hf, P, hP12, hp⟩
    simp (maxDischargeDepth := 3) only [U, ↓reduceIte, Nat.reduceEqDiff, *] at hf
    obtain ⟨y, h, r, kb, hor, hvy, hPl, hPk, hPp, hex⟩ := hp.out
    have bBk : Bl B w wk := FR
    have hBk : B ≤ wk.heap.size := FR
    have hxwk : Ext w wk := FR
    have hyk : WorldR wk wk.heap.size h r y := by
      rcases hor with ⟨rfl, rfl, rfl⟩ | ⟨o1, o2⟩
      · have hXk := hX wk bBk
        exact ⟨hXk.h.more hBk, hXk.r.more hBk⟩
      · exact ⟨o1.slN (f := stateC), o2.slN (f := replC)⟩
    have kx := kb.bk
    have hyq := hyk.sk (Nat.le_refl _)
    have hYk := hyq.2.2.2.2
    have hone2 : h.oneCell' = true ∧ r.oneCell' = true := ⟨hyk.h.one, hyk.r.one⟩
    have rk := Ext.refl wk
    have bk : Bl wk.heap.size wk wk := Bl.refl (Nat.le_refl _)
    have hapk : apS sd (l.map (·.x)) S6 y k = if applyE sd (l.map (·.x)) y S6[k] = 0 then some (applyW sd (l.map (·.x)) y S6[k]) else none := by simp [apS, List.getElem?_eq_getElem hlt]
    have hrd := apply_iff (s := sd) (wl := l.map (·.x)) (x := y) (st := S6[k])
    have hav : readyB sd (l.map (·.x)) y S6[k] = true → validB sd (l.map (·.x)) (applyW sd (l.map (·.x)) y S6[k]) = true := fun h9 => apply_valid h9
    have hRe := fun w' (h1 : Bl B w w') (h2 : Bl wk.heap.size wk w') (h3 : wk.heap.size ≤ w'.heap.size) => ref19Ready (st := S6[k]) (B := wk.heap.size) h3 ((hS w' h1).upE hBk) ((hW w' h1).upE hBk) (hYk w' h2)
    have hAp := fun w' (h1 : Bl B w w') (h2 : Bl wk.heap.size wk w') (h3 : wk.heap.size ≤ w'.heap.size) => ref19Apply (st := S6[k]) (B := wk.heap.size) h3 ((hS w' h1).upE hBk) ((hW w' h1).upE hBk) (hYk w' h2)
    have stay : ∀ w', Kp bx wk w' → Ext wk w' → Hid (∃ y h r, Blk w' bx 36 [h, r] ∧ ((h = hv ∧ r = rv ∧ y = x) ∨ (OwnH w' wS.heap.size h y.hosts ∧ OwnP w' wS.heap.size r y.replicas)) ∧ validB sd (l.map (·.x)) y = true ∧ P.length ≤ k + 1 ∧ (∀ q ∈ P, q < k + 1) ∧ P.Pairwise (· < ·) ∧ ∀ seen r, explB (apS sd (l.map (·.x)) S6) seen x (P ++ r) = explB (apS sd (l.map (·.x)) S6) seen y r) := fun w' hkp hx' =>
      ⟨y, h, r, kb.kp hkp, hor.elim .inl fun ⟨o1, o2⟩ => .inr ⟨o1.ext hx', o2.ext hx'⟩, hvy, by omega, fun q hq => Nat.lt_succ_of_lt (hPk q hq), hPp, hex⟩
    have hw6 : IntKind.u64.wrap (k : Int) = (k : Int) := by rw [IntKind.wrap_u64]; omega
    have hwP : IntKind.i64.wrap ((P.length : Int) + 1) = ((P.length + 1 : Nat) : Int) := by rw [wrap_i64_id] <;> omega
    by_cases hE : applyE sd (l.map (·.x)) y S6[k] = 0
    · have hr := hrd.1 hE
      rw [hr] at hRe
      rw [hE] at hAp
      rw [if_pos hE] at hapk
      have hvw := hav hr
      generalize applyW sd (l.map (·.x)) y S6[k] = W' at *
      clear hp hor hyk kb hrd hE hav hr
      (repeat' first
    | ((with_reducible refine wpd_at 10 ?_); refine wpd_hold ?_)
    | ((with_reducible refine wpd_at 9 ?_); refine wpd_tail 14 KR KR KR ?_)
    | ((with_reducible refine at_row ?_); refine row1_a fun _ _ _ _ _ _ _ => ?_)
    | with_reducible first | (first | apply alloc_k | apply row_k); intro _ _ _ _ _ _ | (first | apply fork | apply forkp) <;> intro _ | refine forke (fun _ => ?_) fun _ _ => ?_ | refine tail_k fun _ _ _ => ?_ | refine ext_k fun _ _ _ => ?_ | refine need_a ?_ | refine st_agg KR rfl ON fun _ _ _ _ => ?_ | refine wpd_q_a ?_
    | ((with_reducible refine at_f 10 ?_); refine ret_k (hRe _ FR FR FR) fun _ _ _ => ?_)
    | simp (maxDischargeDepth := 3) only [↓X, ↓Y, ↓Q, S1, ↓reduceIte, Nat.reduceEqDiff, Nat.reduceAdd, Int.reduceLT, Int.reduceLE, Int.reduceNeg, Int.reduceBEq, Int.reduceBNe, Int.reduceEq, Nat.reduceLeDiff, Nat.reduceMul, Nat.reduceLT, *, siteC, stepV, stepC]
    | simp (singlePass := true) (maxDischargeDepth := 99) only [*, S2, Nat.reduceLT, siteC, stepV, stepC])
      · refine next_b hk hlt ?_ FR
        (repeat' first
    | ((with_reducible refine at_row ?_); refine row1_a fun _ _ _ _ _ _ _ => ?_)
    | with_reducible first | (first | apply alloc_k | apply row_k); intro _ _ _ _ _ _ | (first | apply fork | apply forkp) <;> intro _ | refine forke (fun _ => ?_) fun _ _ => ?_ | refine tail_k fun _ _ _ => ?_ | refine ext_k fun _ _ _ => ?_ | refine need_a ?_ | refine st_agg KR rfl ON fun _ _ _ _ => ?_ | refine wpd_q_a ?_
    | simp (maxDischargeDepth := 3) only [↓X, ↓Y, ↓Q, S1, ↓reduceIte, Nat.reduceEqDiff, Nat.reduceAdd, Int.reduceLT, Int.reduceLE, Int.reduceNeg, Int.reduceBEq, Int.reduceBNe, Int.reduceEq, Nat.reduceLeDiff, Nat.reduceMul, Nat.reduceLT, *]
    | simp (singlePass := true) (maxDischargeDepth := 99) only [*, S2, Nat.reduceLT])
        exact ⟨P, rfl, stay _ FR FR⟩
      · rename_i wR nR sR
        have rR := Ext.refl wR
        have hxR : Ext wk wR := FR
        have hwkR : wk.heap.size ≤ wR.heap.size := hxR.size
        clear stay
        unfold wpdH
        refine wpd_relS2 13 [(12, 11)] (fun iI s v w9 => match iI with
          | 0 => v = .agg (siteC u sd).toArray
          | 1 => v = .agg #[wv]
          | 2 => v = .agg #[h, r]
          | 3 => v = cv
          | 4 => v = .int .i64 k
          | 5 => v = elemAt cv 4 k
          | 6 => v = stepV S6[k]
          | 7 => ∃ u, v = .tuple #[u, intV 0] ∧ OwnW wR.heap.size u w9 W'
          | 8 => ∃ u, v = .tuple #[u, intV 0] ∧ OwnW wR.heap.size u w9 W'
          | 9 => OwnW wR.heap.size v w9 W'
          | 10 => v = intV 0
          | 11 => ∃ b, v = .pointer (some ⟨b, 0, none⟩) ∧ (wR.heap.size ≤ b ∧ b < w9.heap.size) ∧ (s = false → Blk w9 b 36 [.slice none 0 0, .slice none 0 0]) ∧ (s = true → ∃ h r, Blk w9 b 36 [h, r] ∧ OwnH w9 wR.heap.size h W'.hosts ∧ OwnP w9 wR.heap.size r W'.replicas)
          | 12 => True
          | _ => False) (fun iI => iI == 11) ?_ KR KR KR KR ?_ ?_ ?_
        · intro iI s v w9 hF hR b hb
          match iI, hF, hR with
          | 0, hF, _ => exact absurd hF (by decide)
          | 1, hF, _ => exact absurd hF (by decide)
          | 2, hF, _ => exact absurd hF (by decide)
          | 3, hF, _ => exact absurd hF (by decide)
          | 4, hF, _ => exact absurd hF (by decide)
          | 5, hF, _ => exact absurd hF (by decide)
          | 6, hF, _ => exact absurd hF (by decide)
          | 7, hF, _ => exact absurd hF (by decide)
          | 8, hF, _ => exact absurd hF (by decide)
          | 9, hF, _ => exact absurd hF (by decide)
          | 10, hF, _ => exact absurd hF (by decide)
          | 11, _, ⟨b2, e, h1, _⟩ => subst e; obtain rfl := Option.some.inj hb; exact h1.2
          | 12, hF, _ => exact absurd hF (by decide)
        · intro iI s v w1 w2 hR hx9
          match iI, hR with
          | 0, h => exact h
          | 1, h => exact h
          | 2, h => exact h
          | 3, h => exact h
          | 4, h => exact h
          | 5, h => exact h
          | 6, h => exact h
          | 7, h => exact (let ⟨u, e, o⟩ := h; ⟨u, e, o.ext hx9⟩)
          | 8, h => exact (let ⟨u, e, o⟩ := h; ⟨u, e, o.ext hx9⟩)
          | 9, h => exact OwnW.ext h hx9
          | 10, h => exact h
          | 11, ⟨b, e, h1, h2, h3⟩ => exact ⟨b, e, ⟨h1.1, Nat.lt_of_lt_of_le h1.2 hx9.size⟩, fun hs => (h2 hs).ext hx9, fun hs => (fun h => (let ⟨a, b, k, o1, o2⟩ := h; ⟨a, b, k.ext hx9, o1.ext hx9, o2.ext hx9⟩)) (h3 hs)⟩
          | 12, h => exact h
        · intro iI oO hi ho gF w9 S9 hx9 hdep hag
          have s9 := hx9.st
          have n9 : Now w9 := trivial
          have r9 := Ext.refl w9
          have z9 := hx9.size
          rcases iI with _|_|_|_|_|_|_|_|_|_|_|_|_|iI
          have e := Option.some.inj ho
          subst e
          have a5 := hag.at 5 KR
          simp only [S5, ↓reduceIte, Nat.reduceEqDiff, initF, *] at a5
          clear hag hdep ho
          refine ⟨fun _ _ => ?_, fun _ hF => absurd hF (by decide), fun a9 pa da hal => by simp [alL] at hal⟩
          refine relStep_off rfl ?_
          rotate_left
          have e := Option.some.inj ho
          subst e
          have a6 := hag.at 6 KR
          simp only [S5, ↓reduceIte, Nat.reduceEqDiff, initF, *] at a6
          clear hag hdep ho
          refine ⟨fun _ _ => ?_, fun _ hF => absurd hF (by decide), fun a9 pa da hal => by simp [alL] at hal⟩
          refine relStep_off rfl ?_
          rotate_left
          have e := Option.some.inj ho
          subst e
          have a11 := hag.at 11 KR
          simp only [S5, ↓reduceIte, Nat.reduceEqDiff, initF, *] at a11
          clear hag hdep ho
          refine ⟨fun _ _ => ?_, fun _ hF => absurd hF (by decide), fun a9 pa da hal => by simp [alL] at hal⟩
          refine relStep_off rfl ?_
          rotate_left
          have e := Option.some.inj ho
          subst e
          have a3 := hag.at 3 KR
          simp only [S5, ↓reduceIte, Nat.reduceEqDiff, initF, *] at a3
          clear hag hdep ho
          refine ⟨fun _ _ => ?_, fun _ hF => absurd hF (by decide), fun a9 pa da hal => by simp [alL] at hal⟩
          refine relStep_off rfl ?_
          rotate_left
          have e := Option.some.inj ho
          subst e
          have a13 := hag.at 13 KR
          simp only [S5, ↓reduceIte, Nat.reduceEqDiff, initF, *] at a13
          clear hag hdep ho
          refine ⟨fun _ _ => ?_, fun _ hF => absurd hF (by decide), fun a9 pa da hal => by simp [alL] at hal⟩
          refine relStep_off rfl ?_
          rotate_left
          have e := Option.some.inj ho
          subst e
          have d3 : (gF 77) = cv := hdep ⟨3, .data⟩ (by simp) rfl _ _ rfl rfl
          have d4 : (gF 78) = .int .i64 k := hdep ⟨4, .data⟩ (by simp) rfl _ _ rfl rfl
          clear hag hdep ho
          refine ⟨fun _ _ => ?_, fun _ hF => absurd hF (by decide), fun a9 pa da hal => by simp [alL] at hal⟩
          refine relStep_off rfl ?_
          rotate_left
          have e := Option.some.inj ho
          subst e
          have d5 : (gF 79) = elemAt cv 4 k := hdep ⟨5, .data⟩ (by simp) rfl _ _ rfl rfl
          clear hag hdep ho
          refine ⟨fun _ _ => ?_, fun _ hF => absurd hF (by decide), fun a9 pa da hal => by simp [alL] at hal⟩
          refine relStep_off rfl ?_
          rotate_left
          have e := Option.some.inj ho
          subst e
          have d0 : (gF 74) = .agg (siteC u sd).toArray := hdep ⟨0, .data⟩ (by simp) rfl _ _ rfl rfl
          have d1 : (gF 75) = .agg #[wv] := hdep ⟨1, .data⟩ (by simp) rfl _ _ rfl rfl
          have d2 : (gF 76) = .agg #[h, r] := hdep ⟨2, .data⟩ (by simp) rfl _ _ rfl rfl
          have d6 : (gF 80) = stepV S6[k] := hdep ⟨6, .data⟩ (by simp) rfl _ _ rfl rfl
          clear hag hdep ho
          refine ⟨fun _ _ => ?_, fun _ hF => absurd hF (by decide), fun a9 pa da hal => by simp [alL] at hal⟩
          refine relStep_off rfl ?_
          rotate_left
          have e := Option.some.inj ho
          subst e
          have d7 : ∃ u, (gF 81) = .tuple #[u, intV 0] ∧ OwnW wR.heap.size u w9 W' := hdep ⟨7, .data⟩ (by simp) rfl _ _ rfl rfl
          obtain ⟨u7, e7, o7⟩ := d7
          clear hag hdep ho
          refine ⟨fun _ _ => ?_, fun _ hF => absurd hF (by decide), fun a9 pa da hal => by simp [alL] at hal⟩
          refine relStep_off rfl ?_
          rotate_left
          have e := Option.some.inj ho
          subst e
          have d8 : ∃ u, (gF 73) = .tuple #[u, intV 0] ∧ OwnW wR.heap.size u w9 W' := hdep ⟨8, .data⟩ (by simp) rfl _ _ rfl rfl
          obtain ⟨u8, e8, o8⟩ := d8
          clear hag hdep ho
          refine ⟨fun _ _ => ?_, fun _ hF => absurd hF (by decide), fun a9 pa da hal => by simp [alL] at hal⟩
          refine relStep_off rfl ?_
          rotate_left
          have e := Option.some.inj ho
          subst e
          have d8 : ∃ u, (gF 73) = .tuple #[u, intV 0] ∧ OwnW wR.heap.size u w9 W' := hdep ⟨8, .data⟩ (by simp) rfl _ _ rfl rfl
          obtain ⟨u8, e8, o8⟩ := d8
          clear hag hdep ho
          refine ⟨fun _ _ => ?_, fun _ hF => absurd hF (by decide), fun a9 pa da hal => by simp [alL] at hal⟩
          refine relStep_off rfl ?_
          rotate_left
          have e := Option.some.inj ho
          subst e
          clear hag hdep ho
          refine ⟨fun _ hF => absurd hF (by decide), fun _ _ => ?_, fun a9 pa da hal => by simp [alL] at hal⟩
          refine relStep_off rfl ?_
          rotate_left
          have e := Option.some.inj ho
          subst e
          have d11 : ∃ b, (gF 14) = .pointer (some ⟨b, 0, none⟩) ∧ (wR.heap.size ≤ b ∧ b < w9.heap.size) ∧ ((S9 11) = false → Blk w9 b 36 [.slice none 0 0, .slice none 0 0]) ∧ ((S9 11) = true → ∃ h r, Blk w9 b 36 [h, r] ∧ OwnH w9 wR.heap.size h W'.hosts ∧ OwnP w9 wR.heap.size r W'.replicas) := hdep ⟨11, .data⟩ (by simp) rfl _ _ rfl rfl
          obtain ⟨b11, e11, ⟨q11, l11⟩, hz11, _⟩ := d11
          have d9 : OwnW wR.heap.size (gF 82) w9 W' := hdep ⟨9, .data⟩ (by simp) rfl _ _ rfl rfl
          obtain ⟨h9, r9', e9, oh9, or9⟩ := d9
          have H9 := oh9.one
          have R9 := or9.one
          clear hag hdep ho
          refine ⟨fun h => by simp [alL] at h, fun h => by simp [alL] at h, fun a9 pa da hal hS9 hpa hda => ?_⟩
          obtain rfl : 11 = a9 := by simpa [alL] using hal
          obtain rfl := Option.some.inj hpa
          obtain rfl := Option.some.inj hda
          have hz := hz11 hS9
          clear hal hpa hda hz11
          refine relStep_off rfl ?_
          rotate_left
          · omega
          all_goals (repeat' first
    | ((with_reducible refine at_row ?_); refine row1_a fun _ _ _ _ _ _ _ => ?_)
    | with_reducible first | (first | apply alloc_k | apply row_k); intro _ _ _ _ _ _ | (first | apply fork | apply forkp) <;> intro _ | refine forke (fun _ => ?_) fun _ _ => ?_ | refine tail_k fun _ _ _ => ?_ | refine ext_k fun _ _ _ => ?_ | refine need_a ?_ | refine st_agg KR rfl ON fun _ _ _ _ => ?_ | refine wpd_q_a ?_
    | simp (maxDischargeDepth := 3) only [↓X, ↓Y, ↓Q, S1, ↓reduceIte, Nat.reduceEqDiff, Nat.reduceAdd, Int.reduceLT, Int.reduceLE, Int.reduceNeg, Int.reduceBEq, Int.reduceBNe, Int.reduceEq, Nat.reduceLeDiff, Nat.reduceMul, Nat.reduceLT, *, siteC, stepV, stepC]
    | simp (singlePass := true) (maxDischargeDepth := 99) only [*, S2, Nat.reduceLT, siteC, stepV, stepC])
          all_goals first
            | (refine CallsV.mono (hAp _ FR FR FR) fun v w10 hh => ⟨hh.1, ?_⟩; obtain ⟨_, u0, rfl, ho⟩ := hh; exact ⟨u0, rfl, ho.more z9⟩)
            | (exact ⟨u7, rfl, o7⟩)
            | (exact o8)
            | (rename_i b10 w10 n10 k10 s10 q10; exact ⟨⟨_, rfl, ⟨FR, FR⟩, fun _ => k10.2.1 _ k10.2.2.1, fun h => absurd h (by decide)⟩, fun b hb => by obtain rfl := Option.some.inj hb; exact FR⟩)
            | (
                refine stT_agg (w0 := w9) (vs := [h9, r9']) hz rfl KR rfl (by simp [H9, R9]) fun w10 hb10 hc => ⟨b11, hc, q11, ⟨b11, (by first | exact e11 | rfl), ⟨q11, Nat.lt_of_lt_of_le l11 hc.size⟩, fun h => absurd h (by decide), fun _ => ⟨h9, r9', hb10, oh9.fr hz hc (.inl (by decide)), or9.fr hz hc (.inl (by decide))⟩⟩, ?_⟩
                intro iI s v hne hN hR
                match iI, hN, hR with
                | 0, _, h | 1, _, h | 2, _, h | 3, _, h | 4, _, h | 5, _, h | 6, _, h | 10, _, h | 12, _, h => exact h
                | 7, _, h => exact (let ⟨u, e, o⟩ := h; ⟨u, e, ownW_frE o hz hc⟩)
                | 8, _, h => exact (let ⟨u, e, o⟩ := h; ⟨u, e, ownW_frE o hz hc⟩)
                | 9, _, h => exact ownW_frE h hz hc
                | 11, _, _ => exact absurd rfl hne)
        · intro g9 w9 hx9 hR hDis hag
          have s9 := hx9.st
          have n9 : Now w9 := trivial
          have r9 := Ext.refl w9
          have z9 := hx9.size
          have d10 : (g9 83) = intV 0 := hR 10 _ _ (by decide) rfl rfl
          have d11 : ∃ b, (g9 14) = .pointer (some ⟨b, 0, none⟩) ∧ (wR.heap.size ≤ b ∧ b < w9.heap.size) ∧ (true = false → Blk w9 b 36 [.slice none 0 0, .slice none 0 0]) ∧ (true = true → ∃ h r, Blk w9 b 36 [h, r] ∧ OwnH w9 wR.heap.size h W'.hosts ∧ OwnP w9 wR.heap.size r W'.replicas) := hR 11 _ _ (by decide) rfl rfl
          obtain ⟨b11, e11, ⟨q11, _⟩, _, f11⟩ := d11
          replace f11 := f11 rfl
          have nw11 := Nw.of q11
          obtain ⟨hA, rA, kwA, ohA, orA⟩ := f11
          have KWA := kwA.bk
          have HA := ohA.o
          have RA := orA.o
          clear kwA ohA orA
          have a3 := hag.at 3 KR
          have a4 := hag.at 4 KR
          have a5 := hag.at 5 KR
          have a6 := hag.at 6 KR
          have a7 := hag.at 7 KR
          have a11 := hag.at 11 KR
          have a12 := hag.at 12 KR
          have a13 := hag.at 13 KR
          simp only [S5, ↓reduceIte, Nat.reduceEqDiff, initF, *] at a3 a4 a5 a6 a7 a11 a12 a13
          clear hag hR hDis
          simp only [List.drop_succ_cons, List.drop_zero]
          have hSk : wS.heap.size ≤ wR.heap.size := FR
          have hw8R : ¬ bx = b11 := by have h1 : bx < wR.heap.size := FR; omega
          (repeat' first
    | ((with_reducible refine at_row ?_); refine row1_a fun _ _ _ _ _ _ _ => ?_)
    | with_reducible first | (first | apply alloc_k | apply row_k); intro _ _ _ _ _ _ | (first | apply fork | apply forkp) <;> intro _ | refine forke (fun _ => ?_) fun _ _ => ?_ | refine tail_k fun _ _ _ => ?_ | refine ext_k fun _ _ _ => ?_ | refine need_a ?_ | refine st_agg KR rfl ON fun _ _ _ _ => ?_ | refine wpd_q_a ?_
    | simp (maxDischargeDepth := 3) only [↓X, ↓Y, ↓Q, S1, ↓reduceIte, Nat.reduceEqDiff, Nat.reduceAdd, Int.reduceLT, Int.reduceLE, Int.reduceNeg, Int.reduceBEq, Int.reduceBNe, Int.reduceEq, Nat.reduceLeDiff, Nat.reduceMul, Nat.reduceLT, *]
    | simp (singlePass := true) (maxDischargeDepth := 99) only [*, S2, Nat.reduceLT])
          rename_i wz nz kz sz
          refine next_b hk hlt ?_ FR
          (repeat' first
    | ((with_reducible refine at_row ?_); refine row1_a fun _ _ _ _ _ _ _ => ?_)
    | with_reducible first | (first | apply alloc_k | apply row_k); intro _ _ _ _ _ _ | (first | apply fork | apply forkp) <;> intro _ | refine forke (fun _ => ?_) fun _ _ => ?_ | refine tail_k fun _ _ _ => ?_ | refine ext_k fun _ _ _ => ?_ | refine need_a ?_ | refine st_agg KR rfl ON fun _ _ _ _ => ?_ | refine wpd_q_a ?_
    | simp (maxDischargeDepth := 3) only [↓X, ↓Y, ↓Q, S1, ↓reduceIte, Nat.reduceEqDiff, Nat.reduceAdd, Int.reduceLT, Int.reduceLE, Int.reduceNeg, Int.reduceBEq, Int.reduceBNe, Int.reduceEq, Nat.reduceLeDiff, Nat.reduceMul, Nat.reduceLT, *]
    | simp (singlePass := true) (maxDischargeDepth := 99) only [*, S2, Nat.reduceLT])
          refine ⟨P ++ [k], by simp, W', hA, rA, kz.2.1 _ FR, .inr ⟨(HA.1 _ FR).more hSk, (RA.1 _ FR).more hSk⟩, hvw, by simp; omega, fun q hq => ?_, ?_, fun seen r => expl_snocs (hex seen) hapk r⟩
          · rcases List.mem_append.1 hq with h | h
            · exact Nat.lt_succ_of_lt (hPk q h)
            · obtain rfl := List.mem_singleton.1 h
              exact Nat.lt_succ_self _
          · refine List.pairwise_append.2 ⟨hPp, by simp, fun a ha b hb => ?_⟩
            obtain rfl := List.mem_singleton.1 hb
            exact hPk a ha
    · have hr : readyB sd (l.map (·.x)) y S6[k] = false := by rw [← Bool.not_eq_true]; exact fun h => hE (hrd.2 h)
      rw [hr] at hRe
      clear hp hor hyk kb hrd hE hav hr hAp hapk
      (repeat' first
    | ((with_reducible refine wpd_at 10 ?_); refine wpd_hold ?_)
    | ((with_reducible refine wpd_at 9 ?_); refine wpd_tail 14 KR KR KR ?_)
    | ((with_reducible refine at_row ?_); refine row1_a fun _ _ _ _ _ _ _ => ?_)
    | with_reducible first | (first | apply alloc_k | apply row_k); intro _ _ _ _ _ _ | (first | apply fork | apply forkp) <;> intro _ | refine forke (fun _ => ?_) fun _ _ => ?_ | refine tail_k fun _ _ _ => ?_ | refine ext_k fun _ _ _ => ?_ | refine need_a ?_ | refine st_agg KR rfl ON fun _ _ _ _ => ?_ | refine wpd_q_a ?_
    | ((with_reducible refine at_f 10 ?_); refine ret_k (hRe _ FR FR FR) fun _ _ _ => ?_)
    | simp (maxDischargeDepth := 3) only [↓X, ↓Y, ↓Q, S1, ↓reduceIte, Nat.reduceEqDiff, Nat.reduceAdd, Int.reduceLT, Int.reduceLE, Int.reduceNeg, Int.reduceBEq, Int.reduceBNe, Int.reduceEq, Nat.reduceLeDiff, Nat.reduceMul, Nat.reduceLT, *, siteC, stepV, stepC]
    | simp (singlePass := true) (maxDischargeDepth := 99) only [*, S2, Nat.reduceLT, siteC, stepV, stepC])
      all_goals
        refine next_b hk hlt ?_ FR
        (repeat' first
    | ((with_reducible refine at_row ?_); refine row1_a fun _ _ _ _ _ _ _ => ?_)
    | with_reducible first | (first | apply alloc_k | apply row_k); intro _ _ _ _ _ _ | (first | apply fork | apply forkp) <;> intro _ | refine forke (fun _ => ?_) fun _ _ => ?_ | refine tail_k fun _ _ _ => ?_ | refine ext_k fun _ _ _ => ?_ | refine need_a ?_ | refine st_agg KR rfl ON fun _ _ _ _ => ?_ | refine wpd_q_a ?_
    | simp (maxDischargeDepth := 3) only [↓X, ↓Y, ↓Q, S1, ↓reduceIte, Nat.reduceEqDiff, Nat.reduceAdd, Int.reduceLT, Int.reduceLE, Int.reduceNeg, Int.reduceBEq, Int.reduceBNe, Int.reduceEq, Nat.reduceLeDiff, Nat.reduceMul, Nat.reduceLT, *]
    | simp (singlePass := true) (maxDischargeDepth := 99) only [*, S2, Nat.reduceLT])
        exact ⟨P, rfl, stay _ FR FR⟩
  · rintro g wk nk sk ck hbk ⟨hi, hf, P, hP12, hp⟩
    simp (maxDischargeDepth := 3) only [U, ↓reduceIte, Nat.reduceEqDiff, *] at hf
    obtain ⟨y, h, r, kb, hor, hvy, hPl, hPk, hPp, hex⟩ := hp.out
    have bBk : Bl B w wk := FR
    have hBk : B ≤ wk.heap.size := FR
    have hxwk : Ext w wk := FR
    have hyk : WorldR wk wk.heap.size h r y := by
      rcases hor with ⟨rfl, rfl, rfl⟩ | ⟨o1, o2⟩
      · have hXk := hX wk bBk
        exact ⟨hXk.h.more hBk, hXk.r.more hBk⟩
      · exact ⟨o1.slN (f := stateC), o2.slN (f := replC)⟩
    have kx := kb.bk
    have hyq := hyk.sk (Nat.le_refl _)
    have hYk := hyq.2.2.2.2
    have rk := Ext.refl wk
    have bk : Bl wk.heap.size wk wk := Bl.refl (Nat.le_refl _)
    have hge : ¬ (S6.length : Int) < (S6.length : Int) := by omega
    have hask' : askB sd (l.map (·.x)) x S6 y = true := by
      simp only [askB, Bool.and_eq_true] at hask ⊢
      exact ⟨⟨⟨hask.1.1.1, hvy⟩, hask.1.2⟩, hask.2⟩
    have he : explB (apS sd (l.map (·.x)) S6) y x P = true := by
      have h9 := hex y []
      rw [List.append_nil] at h9
      rw [h9]
      simp [explB]
    obtain ⟨r0, hr0, hrl, hrn, hrp, hre⟩ := expl_min (n := S6.length) hPk hPp hPl he
    have hXu := fun w' (h : Bl B w w') => world_upE (hX w' h) hBk
    clear hp hor hyk kb hex
    (repeat' first
    | ((with_reducible refine at_row ?_); refine row1_a fun _ _ _ _ _ _ _ => ?_)
    | with_reducible first | (first | apply alloc_k | apply row_k); intro _ _ _ _ _ _ | (first | apply fork | apply forkp) <;> intro _ | refine forke (fun _ => ?_) fun _ _ => ?_ | refine tail_k fun _ _ _ => ?_ | refine ext_k fun _ _ _ => ?_ | refine need_a ?_ | refine st_agg KR rfl ON fun _ _ _ _ => ?_ | refine wpd_q_a ?_
    | simp (maxDischargeDepth := 3) only [↓X, ↓Y, ↓Q, S1, ↓reduceIte, Nat.reduceEqDiff, Nat.reduceAdd, Int.reduceLT, Int.reduceLE, Int.reduceNeg, Int.reduceBEq, Int.reduceBNe, Int.reduceEq, Nat.reduceLeDiff, Nat.reduceMul, Nat.reduceLT, *, siteC]
    | simp (singlePass := true) (maxDischargeDepth := 99) only [*, S2, Nat.reduceLT, siteC])
    refine call_k (driftExplain (B := wk.heap.size) FR ((hS _ FR).upE hBk) ((hW _ FR).upE hBk) (hXu _ FR) ((hQ _ FR).more hBk) (hYk _ FR)) ?_
    rintro v1 w1 n1 s1 hres
    rw [hask', hr0, ExplR, if_pos rfl] at hres
    obtain ⟨u1, rfl, o1⟩ := hres
    have a1 := o1.one
    have S1' := o1.sl1 (f := nV)
    have S1k := S1'.k (Nat.le_refl _)
    have hmax1 := S1'.max_
    have bB1 : Bl B w w1 := FR
    have hB1 : B ≤ w1.heap.size := FR
    have b1 : Bl w1.heap.size w1 w1 := Bl.refl (Nat.le_refl _)
    have bk1 : Bl wk.heap.size wk w1 := FR
    have hk1 : wk.heap.size ≤ w1.heap.size := FR
    have hl1 : lenN u1 = r0.length := by have h9 := S1'.len; rwa [List.length_map] at h9
    have hEx := fun w' (h1 : Bl B w w') (h2 : Bl wk.heap.size wk w') (h3 : Bl w1.heap.size w1 w') (h4 : w1.heap.size ≤ w'.heap.size) => ref30Explains (B := w1.heap.size) (places := r0) (steps := S6) (x := x) (seen := y) h4 ((hS w' h1).upE hB1) ((hW w' h1).upE hB1) (world_upE (hX w' h1) hB1) ((hQ w' h1).more hB1) (S1'.bl h3) (world_upE (hYk w' h2) hk1) hrn
    rw [hre] at hEx
    clear o1
    (repeat' first
    | ((with_reducible refine at_row ?_); refine row1_a fun _ _ _ _ _ _ _ => ?_)
    | with_reducible first | (first | apply alloc_k | apply row_k); intro _ _ _ _ _ _ | (first | apply fork | apply forkp) <;> intro _ | refine forke (fun _ => ?_) fun _ _ => ?_ | refine tail_k fun _ _ _ => ?_ | refine ext_k fun _ _ _ => ?_ | refine need_a ?_ | refine st_agg KR rfl ON fun _ _ _ _ => ?_ | refine wpd_q_a ?_
    | simp (maxDischargeDepth := 3) only [↓X, ↓Y, ↓Q, S1, ↓reduceIte, Nat.reduceEqDiff, Nat.reduceAdd, Int.reduceLT, Int.reduceLE, Int.reduceNeg, Int.reduceBEq, Int.reduceBNe, Int.reduceEq, Nat.reduceLeDiff, Nat.reduceMul, Nat.reduceLT, *, siteC]
    | simp (singlePass := true) (maxDischargeDepth := 99) only [*, S2, Nat.reduceLT, siteC])
    refine loop_k r0.length (fun g0 j g _ => g 18 = .int .i64 (j : Int) ∧ (g 3 = g0 3 ∧ g 5 = g0 5 ∧ g 6 = g0 6 ∧ g 7 = g0 7 ∧ g 11 = g0 11 ∧ g 12 = g0 12 ∧ g 16 = g0 16 ∧ g 17 = g0 17) ∧ Hid True) KR hmax1 ?_ ?_ ?_
    · (repeat' first
    | ((with_reducible refine at_row ?_); refine row1_a fun _ _ _ _ _ _ _ => ?_)
    | with_reducible first | (first | apply alloc_k | apply row_k); intro _ _ _ _ _ _ | (first | apply fork | apply forkp) <;> intro _ | refine forke (fun _ => ?_) fun _ _ => ?_ | refine tail_k fun _ _ _ => ?_ | refine ext_k fun _ _ _ => ?_ | refine need_a ?_ | refine st_agg KR rfl ON fun _ _ _ _ => ?_ | refine wpd_q_a ?_
    | simp (maxDischargeDepth := 3) only [↓X, ↓Y, ↓Q, S1, ↓reduceIte, Nat.reduceEqDiff, Nat.reduceAdd, Int.reduceLT, Int.reduceLE, Int.reduceNeg, Int.reduceBEq, Int.reduceBNe, Int.reduceEq, Nat.reduceLeDiff, Nat.reduceMul, Nat.reduceLT, *]
    | simp (singlePass := true) (maxDischargeDepth := 99) only [*, S2, Nat.reduceLT])
      all_goals exact trivial
    · rintro j m2 g wj hj hjl nj sj bj hw ⟨hi, hf, hq2⟩
      simp (maxDischargeDepth := 3) only [U, ↓reduceIte, Nat.reduceEqDiff, *] at hf
      have hjn := hrn _ (List.getElem_mem hjl)
      have c1 : ¬ (r0[j] : Int) < 0 := by omega
      have c2 : ¬ (S6.length : Int) ≤ (r0[j] : Int) := by omega
      have rj := Ext.refl wj
      rcases Nat.eq_zero_or_pos j with rfl | hpos
      · have c5 : (0 : Int) < (r0.length : Int) := by omega
        have c6 : ((0 : Nat) : Int) < (r0.length : Int) := by omega
        (repeat' first
    | ((with_reducible refine wpd_at 19 ?_); refine wpd_tail 27 KR KR KR ?_)
    | ((with_reducible refine at_row ?_); refine row1_a fun _ _ _ _ _ _ _ => ?_)
    | with_reducible first | (first | apply alloc_k | apply row_k); intro _ _ _ _ _ _ | (first | apply fork | apply forkp) <;> intro _ | refine forke (fun _ => ?_) fun _ _ => ?_ | refine tail_k fun _ _ _ => ?_ | refine ext_k fun _ _ _ => ?_ | refine need_a ?_ | refine st_agg KR rfl ON fun _ _ _ _ => ?_ | refine wpd_q_a ?_
    | simp (maxDischargeDepth := 3) only [↓X, ↓Y, ↓Q, S1, ↓reduceIte, Nat.reduceEqDiff, Nat.reduceAdd, Int.reduceLT, Int.reduceLE, Int.reduceNeg, Int.reduceBEq, Int.reduceBNe, Int.reduceEq, Nat.reduceLeDiff, Nat.reduceMul, Nat.reduceLT, *, nV]
    | simp (singlePass := true) (maxDischargeDepth := 99) only [*, S2, Nat.reduceLT, nV])
        all_goals first | (exfalso; omega) | skip
        refine next_k hj hjl ?_ FR
        (repeat' first
    | ((with_reducible refine at_row ?_); refine row1_a fun _ _ _ _ _ _ _ => ?_)
    | with_reducible first | (first | apply alloc_k | apply row_k); intro _ _ _ _ _ _ | (first | apply fork | apply forkp) <;> intro _ | refine forke (fun _ => ?_) fun _ _ => ?_ | refine tail_k fun _ _ _ => ?_ | refine ext_k fun _ _ _ => ?_ | refine need_a ?_ | refine st_agg KR rfl ON fun _ _ _ _ => ?_ | refine wpd_q_a ?_
    | simp (maxDischargeDepth := 3) only [↓X, ↓Y, ↓Q, S1, ↓reduceIte, Nat.reduceEqDiff, Nat.reduceAdd, Int.reduceLT, Int.reduceLE, Int.reduceNeg, Int.reduceBEq, Int.reduceBNe, Int.reduceEq, Nat.reduceLeDiff, Nat.reduceMul, Nat.reduceLT, *]
    | simp (singlePass := true) (maxDischargeDepth := 99) only [*, S2, Nat.reduceLT])
        all_goals first | exact trivial | exact congrArg (Value.int .i64) (by decide)
      · have c3 : (0 : Int) < (j : Int) := by omega
        have hj1 : j - 1 < r0.length := by omega
        have hw7 : IntKind.i64.wrap ((j : Int) - 1) = ((j - 1 : Nat) : Int) := by rw [wrap_i64_id] <;> omega
        have c4 : ¬ (r0[j] : Int) ≤ (r0[j - 1] : Int) := by
          have := List.pairwise_iff_getElem.1 hrp (j - 1) j hj1 hjl (by omega)
          omega
        have c6 : (j : Int) < (r0.length : Int) := by omega
        (repeat' first
    | ((with_reducible refine wpd_at 19 ?_); refine wpd_tail 27 KR KR KR ?_)
    | ((with_reducible refine at_row ?_); refine row1_a fun _ _ _ _ _ _ _ => ?_)
    | with_reducible first | (first | apply alloc_k | apply row_k); intro _ _ _ _ _ _ | (first | apply fork | apply forkp) <;> intro _ | refine forke (fun _ => ?_) fun _ _ => ?_ | refine tail_k fun _ _ _ => ?_ | refine ext_k fun _ _ _ => ?_ | refine need_a ?_ | refine st_agg KR rfl ON fun _ _ _ _ => ?_ | refine wpd_q_a ?_
    | simp (maxDischargeDepth := 3) only [↓X, ↓Y, ↓Q, S1, ↓reduceIte, Nat.reduceEqDiff, Nat.reduceAdd, Int.reduceLT, Int.reduceLE, Int.reduceNeg, Int.reduceBEq, Int.reduceBNe, Int.reduceEq, Nat.reduceLeDiff, Nat.reduceMul, Nat.reduceLT, *, nV]
    | simp (singlePass := true) (maxDischargeDepth := 99) only [*, S2, Nat.reduceLT, nV])
        refine next_k hj hjl ?_ FR
        (repeat' first
    | ((with_reducible refine at_row ?_); refine row1_a fun _ _ _ _ _ _ _ => ?_)
    | with_reducible first | (first | apply alloc_k | apply row_k); intro _ _ _ _ _ _ | (first | apply fork | apply forkp) <;> intro _ | refine forke (fun _ => ?_) fun _ _ => ?_ | refine tail_k fun _ _ _ => ?_ | refine ext_k fun _ _ _ => ?_ | refine need_a ?_ | refine st_agg KR rfl ON fun _ _ _ _ => ?_ | refine wpd_q_a ?_
    | simp (maxDischargeDepth := 3) only [↓X, ↓Y, ↓Q, S1, ↓reduceIte, Nat.reduceEqDiff, Nat.reduceAdd, Int.reduceLT, Int.reduceLE, Int.reduceNeg, Int.reduceBEq, Int.reduceBNe, Int.reduceEq, Nat.reduceLeDiff, Nat.reduceMul, Nat.reduceLT, *]
    | simp (singlePass := true) (maxDischargeDepth := 99) only [*, S2, Nat.reduceLT])
        all_goals exact trivial
    · rintro g wj nj sj bj ⟨hi, hf, hq2⟩
      simp (maxDischargeDepth := 3) only [U, ↓reduceIte, Nat.reduceEqDiff, *] at hf
      have hge2 : ¬ (r0.length : Int) < (r0.length : Int) := by omega
      have hrl' : (r0.length : Int) ≤ (P.length : Int) := by omega
      have rj := Ext.refl wj
      (repeat' first
    | ((with_reducible refine at_row ?_); refine row1_a fun _ _ _ _ _ _ _ => ?_)
    | with_reducible first | (first | apply alloc_k | apply row_k); intro _ _ _ _ _ _ | (first | apply fork | apply forkp) <;> intro _ | refine forke (fun _ => ?_) fun _ _ => ?_ | refine tail_k fun _ _ _ => ?_ | refine ext_k fun _ _ _ => ?_ | refine need_a ?_ | refine st_agg KR rfl ON fun _ _ _ _ => ?_ | refine wpd_q_a ?_
    | ((with_reducible refine at_f 12 ?_); refine ret_k (hEx _ FR FR FR FR) fun _ _ _ => ?_)
    | ((with_reducible refine at_f 6 ?_); refine ret_k (lives30) fun _ _ _ => ?_)
    | simp (maxDischargeDepth := 3) only [↓X, ↓Y, ↓Q, S1, ↓reduceIte, Nat.reduceEqDiff, Nat.reduceAdd, Int.reduceLT, Int.reduceLE, Int.reduceNeg, Int.reduceBEq, Int.reduceBNe, Int.reduceEq, Nat.reduceLeDiff, Nat.reduceMul, Nat.reduceLT, *, siteC]
    | simp (singlePass := true) (maxDischargeDepth := 99) only [*, S2, Nat.reduceLT, siteC])
end
end Go.Proofs.YtmcdgepfhpakiaaGreat
