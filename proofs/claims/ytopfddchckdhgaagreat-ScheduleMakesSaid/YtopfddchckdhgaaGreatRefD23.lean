/- The document's answer, layer 23: possible. -/
import Derived.Test.YtopfddchckdhgaaGreatRefA23
import Derived.Test.YtopfddchckdhgaaGreatFrQ23
import Derived.Room.AppendUpon
namespace Go.Proofs.YtopfddchckdhgaaGreat
set_option linter.unusedSimpArgs false
set_option linter.unusedVariables false
open Go Go.RowKit
set_option maxRecDepth 100000
set_option linter.unusedSectionVars false
set_option maxHeartbeats 2000000
theorem sxRefD230 {p q : Prop} (hq : q) (h : p = q := by first | (simp (maxDischargeDepth := 3) only [↓X, ↓Y, ↓Q, S1, ↓reduceIte, Nat.reduceEqDiff, Nat.reduceAdd, Int.reduceLT, Int.reduceLE, Int.reduceNeg, Int.reduceBEq, Int.reduceBNe, Int.reduceEq, Nat.reduceLeDiff, Nat.reduceMul, Nat.reduceLT, *, siteC, termsC, stepV, stepC]; try exact rfl) | (simp (singlePass := true) (maxDischargeDepth := 99) only [*, S2, Nat.reduceLT, siteC, termsC, stepV, stepC]; try exact rfl)) : p := h ▸ hq
theorem sl_cells23 {α : Type} {w : World} {B n c : Nat} {a : Addr} {l : List α} {f : α → Value} (h : Sl w B none 1 (.slice (some a) n c) (l.map f)) : ∀ j u, (l.map f)[j]? = some u → w.cell? (a.add j) = some u := by
  intro j u hj
  obtain ⟨hl, he⟩ := List.getElem?_eq_some_iff.1 hj
  have h1 := h.rd j hl
  simp only [elemAt, rdv, rd, Nat.mul_one] at h1
  rw [h1, he]
theorem flat23 {α : Type} {f : α → Value} (l : List α) : (l.map fun x => [f x]).flatten = l.map f := by
  induction l with
  | nil => rfl
  | cons a r ih => simp only [List.map_cons, List.flatten_cons, ih]; rfl
/-- append of a whole slice of one-cell elements to a row of the call's own. -/
theorem appendAll23 {w : World} {B : Nat} {α : Type} {B' e by_ t ty : Nat} {s v z : Value} {c : α → Value} {l r : List α} {k : Value → World → Prop} (hsl : slOf Tryz.prog t = some (e, 1, by_)) (hz : zeroElt Tryz.prog t = some z) (hzs : (cellsL z).length = 1) (hby : by_ ≤ 64)
    (hown : Own w B e 1 s (l.map fun x => [c x])) (hv : Sl w B' none 1 v (r.map c)) (h1 : ∀ x, (c x).oneCell' = true) (hbound : l.length + r.length < 1000000000000) (hB : B ≤ w.heap.size)
    (h : ∀ v' w', Now w' → Sa B w w' → Own w' B e 1 v' ((l ++ r).map fun x => [c x]) → k v' w') : appX Tryz.prog t t ty s v w k := by
  obtain ⟨i, hu, hi, hs, hby'⟩ := slOf_parts hsl
  have hz' : i.zero = some z := by
    unfold zeroElt at hz
    rw [hsl] at hz
    simpa [zeroOf, hi] using hz
  have hcells : z.cells.size = 1 := by rw [← hzs, ← cellsL_eq]; simp
  have hlen : lenN v = r.length := by simpa using hv.len
  have hb : (l.length + r.length) * by_ ≤ 1000000000000 * 64 := Nat.mul_le_mul (by omega) hby
  have hwf := hv.wf
  match v, hv, hlen, hwf with
  | .slice (some a) m cc, hv, hlen, _ =>
    obtain rfl : m = r.length := hlen
    obtain ⟨v', w', hr, h2, h3, _, h5⟩ := run_append_own_at (P := Tryz.prog) w B t ty e i z 1 by_ hu hi hz' hs hby' hcells (by decide) s (l.map fun x => [c x]).length (l.map fun x => [c x]).flatten hown.1 a r.length cc (r.map c) (by rw [List.length_map, Nat.mul_one])
      (sl_cells23 hv) (fun u hu => by obtain ⟨x, _, rfl⟩ := List.mem_map.1 hu; exact h1 x) (by simp only [maxLen, List.length_map]; omega) (by rw [List.length_map]; omega) hB
    refine runsV_ok hr (h v' w' trivial (sa_of (grown_below h3 (fun k hk => (hown.lt k hk).1) hB)) ⟨by rw [flat23] at h2 ⊢; simpa using h2, fun x hx => ?_, by simp only [List.length_map, List.length_append]; omega⟩)
    obtain ⟨y, _, rfl⟩ := List.mem_map.1 hx
    rfl
  | .slice none m cc, hv, hlen, hwf =>
    obtain rfl : m = 0 := hwf
    have hr0 : r = [] := List.eq_nil_of_length_eq_zero hlen.symm
    subst hr0
    have hr : (Builtin.append_ #[t, t] ty #[s, .slice none 0 cc]).run Tryz.prog w = .ok s w := by
      rcases hown.1.2 with ⟨rfl, _⟩ | ⟨g, cap, cur, rfl, _, _, hnc, _⟩
      · simp [Builtin.append_, run_underlying hu, sizeOf, typeInfo, hi, Builtin.lenOf, Builtin.firstCells]
      · rw [List.length_map] at hnc
        simp [Builtin.append_, run_underlying hu, sizeOf, typeInfo, hi, Builtin.lenOf, Builtin.firstCells, hnc, storeCells]
    exact runsV_ok hr (h s w trivial ⟨fun _ _ k _ => k, fun _ _ k _ => k, fun _ k _ => k, fun _ k => k, fun _ k => k, fun _ _ k _ => k, fun _ _ k _ => k⟩ (by simpa using hown))
section
variable {w w' : World} {B B' : Nat} {f : FrV} {bv : Value} {s : SiteD} {p : PlanD} {x : TermsD} {b : List Int}
theorem ref23possible {t : Int} (ht : -1000 ≤ t ∧ t ≤ 20000000) (hF : Fit s p x) (hb : BegD p b) (hB : B ≤ w.heap.size) (hB' : B' ≤ w.heap.size) (h : ArgT w B f s p x) (hv : Sl w B' none 1 bv (b.map intV)) {i : Nat} (hi : i < p.steps.length) : Ret Tryz.prog 64 #[.agg (siteC f.u s).toArray, .agg #[f.sv, f.av], .agg (termsC f.q x).toArray, bv, .int .i64 i, .int .i64 t] w (.bool (Sch.poss (scS s p x) b i t)) := by
  have hn : Now w := trivial
  have hx : Ext w w := Ext.refl w
  have ho := h.ones
  have hbv1 := hv.one
  have KS := h.p.s.k hB
  have KF := h.p.s.fk
  have KT := h.x.t.k hB
  have hbw : Bl B w w := Bl.refl hB
  have hbw' : Bl B' w w := Bl.refl hB'
  have h2 := hF.take i hi
  have hlast := hF.last
  have hfst := hF.first
  obtain ⟨kk, hk1, hk2, hk3, hk4, hk5⟩ := kind_nat hF hi
  rw [List.getD_eq_getElem?_getD, List.getElem?_eq_getElem hk2, Option.getD_some] at hk3
  have hw : IntKind.i64.wrap (t + x.takes[kk]) = t + x.takes[kk] := by rw [← hk3, wrap_i64_id] <;> omega
  have hpo : Hid (Sch.poss (scS s p x) b i t = (decide (x.first ≤ t) && decide (t + x.takes[kk] ≤ x.last) && (winB s p x i t && appB s p x i t) && ((afterS p i).all fun j => decide (Sch.at_ b j.toNat + takeS p x j.toNat ≤ t)) && !(crowdS s p x (b.set i t)).isSome)) := by
    show Sch.poss (scS s p x) b i t = _
    have e1 : Sch.order (scS s p x) b i t = (afterS p i).all fun j => decide (Sch.at_ b j.toNat + takeS p x j.toNat ≤ t) := by
      show ((afterS p i).map Int.toNat).all _ = _
      rw [List.all_map]; rfl
    unfold Sch.poss Sch.base
    rw [e1, ← hk3]; rfl
  have hwn := fun w' (h1 : Bl B w w') => ref23inWindow (t := t) ht hF h1.size (h.bl h1) hi
  have hap := fun w' (h1 : Bl B w w') => ref23approved (t := t) hF h1.size (h.bl h1) hi
  have hend := fun w' (h1 : Bl B w w') (h2 : Bl B' w w') j (hj : j < p.steps.length) => ref23end hF hb h1.size h2.size (h.bl h1) (hv.bl h2) hj
  replace hend : Hid _ := hend
  have hia : i < p.after.length := by rw [hF.len]; exact hi
  have hiaI : (i : Int) < (p.after.length : Int) := by omega
  obtain ⟨u, hu, hU, hA1, hA2, hA3, hU9⟩ := h.row hB hia
  have hpl : Hid (∀ j ∈ afterS p i, ∃ jn : Nat, j = (jn : Int) ∧ jn < p.steps.length) := fun j hj => by
    have h9 := hF.places i hi j hj
    exact ⟨j.toNat, by omega, by omega⟩
  have hcr := fun w' (h1 : Bl B w w') v9 (hv9 : Sl w' w'.heap.size none 1 v9 ((b.set i t).map intV)) (ht9 : 0 ≤ t ∧ t ≤ 1000000) => ref23crowded hF (hb.set (i := i) (t := t) (by omega)) h1.size (Nat.le_refl _) (h.bl h1) hv9
  replace hcr : Hid _ := hcr
  have hlb : Hid (i < b.length ∧ b.length ≤ 12) := ⟨by rw [hb.len]; exact hi, by rw [hb.len]; exact hF.n12⟩
  have hvv : Hid (∀ w', Bl B' w w' → Sl w' B' none 1 bv (b.map intV)) := fun w' h1 => hv.bl h1
  rw [hpo.out]
  have htk : 1 ≤ x.takes[kk] := by rw [← hk3]; exact h2.1
  clear hF hb h hv h2 hk3 hpo
  by_cases h1 : t < x.first
  · rw [decide_eq_false (by omega : ¬ x.first ≤ t)]
    simp only [Bool.false_and]
    (refine callsV_of Tryz.func64 rfl KR KR ?_; rw [Tryz.results64])
    (repeat' first
    | with_reducible first | exact ⟨⟩ | (refine gB ?_; intros) | refine gT ?_ ?_
    | refine gs ?_
    | refine sxRefD230 ?_)
  rw [decide_eq_true (by omega : x.first ≤ t), Bool.true_and]
  by_cases h3 : x.last < t + x.takes[kk]
  · rw [decide_eq_false (by omega : ¬ t + x.takes[kk] ≤ x.last)]
    simp only [Bool.false_and]
    (refine callsV_of Tryz.func64 rfl KR KR ?_; rw [Tryz.results64])
    (repeat' first
    | with_reducible first | exact ⟨⟩ | (refine gB ?_; intros) | refine gT ?_ ?_
    | refine gs ?_
    | refine sxRefD230 ?_)
  rw [decide_eq_true (by omega : t + x.takes[kk] ≤ x.last), Bool.true_and]
  have ht9 : Hid (0 ≤ t ∧ t ≤ 1000000) := ⟨by omega, by omega⟩
  cases hwb : winB s p x i t
  · rw [hwb] at hwn
    simp only [Bool.false_and]
    (refine callsV_of Tryz.func64 rfl KR KR ?_; rw [Tryz.results64])
    (repeat' first
    | with_reducible first | exact ⟨⟩ | (refine gB ?_; intros) | refine gT ?_ ?_
    | refine gs ?_
    | ((with_reducible refine at_q 102 ?_); refine qret_k (fun _ _ _ => hwn _ FR) ?_)
    | refine sxRefD230 ?_)
  cases hab : appB s p x i t
  · rw [hwb] at hwn
    rw [hab] at hap
    simp only [Bool.and_false, Bool.false_and]
    (refine callsV_of Tryz.func64 rfl KR KR ?_; rw [Tryz.results64])
    (repeat' first
    | with_reducible first | exact ⟨⟩ | (refine gB ?_; intros) | refine gT ?_ ?_
    | refine gs ?_
    | ((with_reducible refine at_q 102 ?_); refine qret_k (fun _ _ _ => hwn _ FR) ?_)
    | ((with_reducible refine at_q 103 ?_); refine qret_k (fun _ _ _ => hap _ FR) ?_)
    | refine sxRefD230 ?_)
  rw [hwb] at hwn
  rw [hab] at hap
  simp only [Bool.and_true, Bool.true_and]
  clear hwb hab
  (refine callsV_of Tryz.func64 rfl KR KR ?_; rw [Tryz.results64])
  (repeat' first
    | with_reducible first | exact ⟨⟩ | (refine gB ?_; intros) | refine gT ?_ ?_
    | refine gs ?_
    | ((with_reducible refine at_q 102 ?_); refine qret_k (fun _ _ _ => hwn _ FR) ?_)
    | ((with_reducible refine at_q 103 ?_); refine qret_k (fun _ _ _ => hap _ FR) ?_)
    | refine sxRefD230 ?_)
  rename_i b6 w6 n6 k6 s6 q6 b7 w7 n7 k7 s7 q7 b8 w8 n8 k8 s8 q8 w9 n9 s9
  refine loop_k ((afterS p i).length) (fun g0 k g _ => g 13 = .int .i64 k ∧ (g 3 = g0 3 ∧ g 4 = g0 4 ∧ g 5 = g0 5 ∧ g 6 = g0 6 ∧ g 7 = g0 7 ∧ g 8 = g0 8) ∧ Hid (((afterS p i).take k).all (fun j => decide (Sch.at_ b j.toNat + takeS p x j.toNat ≤ t)) = true)) KR (hU9) ?_ ?_ ?_
  · (repeat' first
    | with_reducible first | exact ⟨⟩ | (refine gB ?_; intros) | refine gT ?_ ?_
    | refine gs ?_
    | simp (maxDischargeDepth := 3) only [↓X, ↓Y, ↓Q, S1, ↓reduceIte, Nat.reduceEqDiff, Nat.reduceAdd, Int.reduceLT, Int.reduceLE, Int.reduceNeg, Int.reduceBEq, Int.reduceBNe, Int.reduceEq, Nat.reduceLeDiff, Nat.reduceMul, Nat.reduceLT, *, List.take_zero, List.all_nil, List.any_nil]
    | simp (singlePass := true) (maxDischargeDepth := 99) only [*, S2, Nat.reduceLT, List.take_zero, List.all_nil, List.any_nil])
    exact (show True from trivial)
  · rintro k m g wk hk hlt _ _ _ hw ⟨hi, hf, hp⟩
    simp (maxDischargeDepth := 3) only [U, ↓reduceIte, Nat.reduceEqDiff, *] at hf
    obtain ⟨jn, hjn, hjl⟩ := hpl.out _ (List.getElem_mem hlt)
    have hend9 := fun w' h1 h2 => hend.out w' h1 h2 jn hjl
    by_cases hc : t < Sch.at_ b jn + takeS p x jn
    · have hq : (afterS p i).all (fun j => decide (Sch.at_ b j.toNat + takeS p x j.toNat ≤ t)) = false := all_at hlt (by rw [hjn, Int.toNat_natCast]; exact decide_eq_false (by omega))
      rw [hq, Bool.false_and]
      clear hp hq hpl hwn hap hcr
      (repeat' first
    | with_reducible first | exact ⟨⟩ | (refine gB ?_; intros) | refine gT ?_ ?_
    | refine gs ?_
    | ((with_reducible refine at_q 29 ?_); refine qret_k (fun _ _ _ => hend9 _ FR FR) ?_)
    | simp (maxDischargeDepth := 3) only [↓X, ↓Y, ↓Q, S1, ↓reduceIte, Nat.reduceEqDiff, Nat.reduceAdd, Int.reduceLT, Int.reduceLE, Int.reduceNeg, Int.reduceBEq, Int.reduceBNe, Int.reduceEq, Nat.reduceLeDiff, Nat.reduceMul, Nat.reduceLT, *, hjn]
    | simp (singlePass := true) (maxDischargeDepth := 99) only [*, S2, Nat.reduceLT, hjn])
    · have hq : Hid (((afterS p i).take (k + 1)).all (fun j => decide (Sch.at_ b j.toNat + takeS p x j.toNat ≤ t)) = true) := by
        show ((afterS p i).take (k + 1)).all (fun j => decide (Sch.at_ b j.toNat + takeS p x j.toNat ≤ t)) = true
        rw [all_take hlt, hp.out, hjn, Int.toNat_natCast, Bool.true_and]
        exact decide_eq_true (by omega)
      clear hp hpl hwn hap hcr
      (repeat' first
    | with_reducible first | exact ⟨⟩ | (refine gB ?_; intros) | refine gT ?_ ?_
    | refine gs ?_
    | ((with_reducible refine at_q 29 ?_); refine qret_k (fun _ _ _ => hend9 _ FR FR) ?_)
    | simp (maxDischargeDepth := 3) only [↓X, ↓Y, ↓Q, S1, ↓reduceIte, Nat.reduceEqDiff, Nat.reduceAdd, Int.reduceLT, Int.reduceLE, Int.reduceNeg, Int.reduceBEq, Int.reduceBNe, Int.reduceEq, Nat.reduceLeDiff, Nat.reduceMul, Nat.reduceLT, *, hjn]
    | simp (singlePass := true) (maxDischargeDepth := 99) only [*, S2, Nat.reduceLT, hjn])
      refine next_k hk hlt ?_ FR
      (repeat' first
    | with_reducible first | exact ⟨⟩ | (refine gB ?_; intros) | refine gT ?_ ?_
    | refine gs ?_
    | refine sx ?_)
      all_goals exact hq.out
  · rintro g wk nk sk bk ⟨hi4, hf, hp⟩
    simp (maxDischargeDepth := 3) only [U, ↓reduceIte, Nat.reduceEqDiff, *] at hf
    rw [List.take_length] at hp
    rw [hp.out, Bool.true_and]
    have rk := Ext.refl wk
    clear hp hpl hwn hap hend
    (repeat' first
    | with_reducible first | exact ⟨⟩ | (refine gB ?_; intros) | refine gT ?_ ?_
    | refine gs ?_
    | refine sx ?_)
    refine appendAll23 (e := 3) (by_ := 8) (z := .int .i64 0) (B := wk.heap.size) (l := ([] : List Int)) (r := b) (c := intV) KR KR rfl (by decide) (Own.nil _ _ _ _) (hvv.out _ FR) (fun _ => rfl) (by have := hlb.out.2; simp; omega) FR fun v2 w2 n2 s2 hown => ?_
    rw [List.nil_append] at hown
    have ov2 := hown.one
    have KO := (hown.sl1 (f := intV)).v (Nat.le_refl _)
    have hil := hlb.out.1
    have hilI : (i : Int) < (b.length : Int) := by omega
    have hown' : Hid (Own w2 wk.heap.size 3 1 v2 (b.map intC)) := hown
    have r2 := Ext.refl w2
    clear hown
    have h6l : b6 < wk.heap.size := FR
    have h7l : b7 < wk.heap.size := FR
    have h8l : b8 < wk.heap.size := FR
    have hwk : w.heap.size ≤ wk.heap.size := FR
    (repeat' first
    | with_reducible first | exact ⟨⟩ | (refine gB ?_; intros) | refine gT ?_ ?_
    | refine gs ?_
    | refine sx ?_)
    refine own_setE KR hown'.out (by rw [List.length_map]; exact hil) rfl fun g wq nq hg hgB hgl hoq sq cq => ?_
    have e6 : ¬ b6 = g := by omega
    have e7 : ¬ b7 = g := by omega
    have e8 : ¬ b8 = g := by omega
    have eB : B ≤ g := by omega
    have ew : w.heap.size ≤ g := by omega
    have hoq' : Hid (Sl wq wq.heap.size none 1 v2 ((b.set i t).map intV)) := by
      have h9 : Own wq wk.heap.size 3 1 v2 ((b.set i t).map intC) := by rw [List.map_set]; exact hoq
      exact h9.sl1 (f := intV)
    have rq := Ext.refl wq
    clear hoq cq hg hown' KO hgB hgl
    (repeat' first
    | with_reducible first | exact ⟨⟩ | (refine gB ?_; intros) | refine gT ?_ ?_
    | refine gs ?_
    | refine sx ?_)
    refine call_k (hcr.out _ FR v2 (hoq'.out.ext FR (Nat.le_refl _)) ht9.out) ?_
    rintro _ wr nr sr ⟨a9, m9, rfl⟩
    (repeat' first
    | with_reducible first | exact ⟨⟩ | (refine gB ?_; intros) | refine gT ?_ ?_
    | refine gs ?_
    | refine sx ?_)
end
end Go.Proofs.YtopfddchckdhgaaGreat
/- The document's answer, layer 23: earliest. -/
namespace Go.Proofs.YtopfddchckdhgaaGreat
set_option linter.unusedSimpArgs false
set_option linter.unusedVariables false
open Go Go.RowKit
set_option maxRecDepth 100000
set_option linter.unusedSectionVars false
set_option maxHeartbeats 2000000
section
variable {w w' : World} {B B' : Nat} {f : FrV} {bv : Value} {s : SiteD} {p : PlanD} {x : TermsD} {b : List Int}
def aftE (p : PlanD) (x : TermsD) (b : List Int) (i : Nat) : List Int := (afterS p i).map fun j => Sch.at_ b j.toNat + takeS p x j.toNat
def momR (s : SiteD) (p : PlanD) (x : TermsD) (b : List Int) (i : Nat) : List Int := [x.first, appS x i] ++ aftE p x b i ++ x.windows.map (·.frm) ++ (hostsN s).map fun h => toO (spanS p x b h)
theorem momR_early (hF : Fit s p x) {i : Nat} : Sch.bestR (momR s p x b i) (Sch.poss (scS s p x) b i) (-1) = Sch.optI (Sch.early (scS s p x) b i) := by
  have hq : ∀ t, Sch.poss (scS s p x) b i t = true → 0 ≤ t := fun t ht => by
    have h1 : x.first ≤ t := (Sch.poss_iff.1 ht).1.1
    have := hF.first
    omega
  rw [Sch.best_eq hq]
  unfold Sch.early
  refine congrArg Sch.optI (Sch.least_ext fun t ht => ?_)
  have h0 := hq t ht
  show t ∈ [x.first, appS x i] ++ aftE p x b i ++ x.windows.map (·.frm) ++ (hostsN s).map (fun h => toO (spanS p x b h)) ↔ t ∈ x.first :: appS x i :: ((afterS p i).map fun j => Sch.at_ b j.toNat + takeS p x j.toNat) ++ x.windows.map (·.frm) ++ tosS s p x b
  simp only [List.mem_append]
  have key : t ∈ (hostsN s).map (fun h => toO (spanS p x b h)) ↔ t ∈ tosS s p x b := by
    rw [mem_tos hF, List.mem_map]
    constructor
    · rintro ⟨h, hh, e⟩
      cases hs : spanS p x b h with
      | none => rw [hs] at e; simp only [toO] at e; omega
      | some y => obtain ⟨a, c⟩ := y; rw [hs] at e; simp only [toO] at e; exact ⟨h, a, by rw [hs, e]⟩
    · rintro ⟨h, a, e⟩
      exact ⟨h, spanS_host (b := b) hF (by rw [e]; rfl), by rw [e]; rfl⟩
  rw [key]
  simp only [aftE, List.mem_cons, List.not_mem_nil, or_false, or_assoc]
theorem momR_rng (hF : Fit s p x) (hb : BegD p b) {i : Nat} (hi : i < p.steps.length) : ∀ n ∈ momR s p x b i, -1 ≤ n ∧ n ≤ 10000000 := by
  intro n hn
  have h1 := hF.first
  have h2 := hF.last
  have h3 := hF.app i hi
  simp only [momR, List.mem_append, List.mem_cons, List.not_mem_nil, or_false] at hn
  rcases hn with ((hn | hn) | hn) | hn
  · rcases hn with rfl | rfl <;> omega
  · obtain ⟨j, hj, rfl⟩ := List.mem_map.1 hn
    have hp := hF.places i hi j hj
    have hjl : j.toNat < p.steps.length := by omega
    have h4 := hb.at_ hjl
    have h5 := hF.take _ hjl
    omega
  · obtain ⟨y, hy, rfl⟩ := List.mem_map.1 hn
    have := hF.win y hy
    omega
  · obtain ⟨h, hh, rfl⟩ := List.mem_map.1 hn
    cases hs : spanS p x b h with
    | none => simp [toO]
    | some y =>
      obtain ⟨a, c⟩ := y
      have := spanS_rng hF hb hs
      simp only [toO]
      omega
theorem bestR_snoc {l : List Int} {q : Int → Bool} {t z : Int} : Sch.bestR (l ++ [t]) q z = if 0 ≤ t ∧ (Sch.bestR l q z < 0 ∨ t < Sch.bestR l q z) ∧ q t = true then t else Sch.bestR l q z := by
  unfold Sch.bestR
  rw [List.foldl_append]
  rfl
theorem ref23earliest (hF : Fit s p x) (hb : BegD p b) (hB : B ≤ w.heap.size) (hB' : B' ≤ w.heap.size) (h : ArgT w B f s p x) (hv : Sl w B' none 1 bv (b.map intV)) {i : Nat} (hi : i < p.steps.length) : Ret Tryz.prog 28 #[.agg (siteC f.u s).toArray, .agg #[f.sv, f.av], .agg (termsC f.q x).toArray, bv, .int .i64 i] w (intV (Sch.optI (Sch.early (scS s p x) b i))) := by
  have hn : Now w := trivial
  have hx : Ext w w := Ext.refl w
  have ho := h.ones
  have hbv1 := hv.one
  have KP := h.x.p.k hB
  have KN := h.x.n.k hB
  have KNF := h.x.n.fk
  have hmaxN := h.x.n.max_
  have hbw : Bl B w w := Bl.refl hB
  have hbw' : Bl B' w w := Bl.refl hB'
  have hpi : i < x.approved.length := by rw [hF.appr]; exact hi
  have hpiI : (i : Int) < (x.approved.length : Int) := by omega
  have hap : Hid (x.approved[i] = appS x i) := by simp only [appS, hpi, List.getElem?_eq_getElem, Option.getD_some]; exact trivial
  have hia : i < p.after.length := by rw [hF.len]; exact hi
  have hiaI : (i : Int) < (p.after.length : Int) := by omega
  obtain ⟨u, hu, hU, hA1, hA2, hA3, hU9⟩ := h.row hB hia
  have hpl : Hid (∀ j ∈ afterS p i, ∃ jn : Nat, j = (jn : Int) ∧ jn < p.steps.length) := fun j hj => by
    have h9 := hF.places i hi j hj
    exact ⟨j.toNat, by omega, by omega⟩
  have hend : Hid (∀ w' (h1 : Bl B w w') (h2 : Bl B' w w') j (hj : j < p.steps.length), Ret Tryz.prog 29 #[.agg #[f.sv, f.av], .agg (termsC f.q x).toArray, bv, .int .i64 j] w' (intV (Sch.at_ b j + takeS p x j))) := fun w' h1 h2 j hj => ref23end hF hb h1.size h2.size (h.bl h1) (hv.bl h2) hj
  have hout : Hid (∀ w' (h1 : Bl B w w') (h2 : Bl B' w w'), CallsV Tryz.prog 63 #[.agg (siteC f.u s).toArray, .agg #[f.sv, f.av], .agg (termsC f.q x).toArray, bv] w' fun r w'' => Ext w' w'' ∧ ∃ u v, r = .tuple #[u, v] ∧ Own w'' w'.heap.size 3 1 u (((hostsN s).map fun h => frO (spanS p x b h)).map intC) ∧ Own w'' w'.heap.size 3 1 v (((hostsN s).map fun h => toO (spanS p x b h)).map intC)) := fun w' h1 h2 => ref23outs hF hb h1.size h2.size (h.bl h1) (hv.bl h2)
  have hpos : Hid (∀ w' (h1 : Bl B w w') (h2 : Bl B' w w') t (ht : -1000 ≤ t ∧ t ≤ 20000000), Ret Tryz.prog 64 #[.agg (siteC f.u s).toArray, .agg #[f.sv, f.av], .agg (termsC f.q x).toArray, bv, .int .i64 i, .int .i64 t] w' (.bool (Sch.poss (scS s p x) b i t))) := fun w' h1 h2 t ht => ref23possible ht hF hb h1.size h2.size (h.bl h1) (hv.bl h2) hi
  have hrng : Hid (∀ n ∈ momR s p x b i, -1 ≤ n ∧ n ≤ 10000000) := momR_rng hF hb hi
  have hal : Hid ((afterS p i).length ≤ 12 ∧ x.windows.length ≤ 16 ∧ s.hosts.length ≤ 16) := ⟨hF.alen i hi, hF.wl, by
    have h9 := (site_all hF.site).2.2.2.2
    simp only [sizesB, btw, Bool.and_eq_true, decide_eq_true_eq] at h9
    omega⟩
  rw [← momR_early hF]
  have hbr : Hid (∀ j (hj : j < p.steps.length), Sch.at_ b j + takeS p x j ≤ 1001000) := fun j hj => by
    have := hb.at_ hj
    have := hF.take j hj
    omega
  clear hF hb h hv
  (refine callsV_of Tryz.func28 rfl KR KR ?_; rw [Tryz.results28])
  (repeat' first
    | ((with_reducible refine wpd_at 1 ?_); refine wpd_tail 7 KR KR KR ?_)
    | with_reducible first | exact ⟨⟩ | (refine gB ?_; intros) | refine gT ?_ ?_
    | refine gs ?_
    | simp (maxDischargeDepth := 3) only [↓X, ↓Y, ↓Q, S1, ↓reduceIte, Nat.reduceEqDiff, Nat.reduceAdd, Int.reduceLT, Int.reduceLE, Int.reduceNeg, Int.reduceBEq, Int.reduceBNe, Int.reduceEq, Nat.reduceLeDiff, Nat.reduceMul, Nat.reduceLT, *, siteC, termsC]
    | simp (singlePass := true) (maxDischargeDepth := 99) only [*, S2, Nat.reduceLT, siteC, termsC])
  rename_i b5 w5 n5 k5 s5 q5 b6 w6 n6 k6 s6 q6 b7 w7 n7 k7 s7 q7 w8 n8 s8 br wr nr kr sr qr zr
  have hrb : Blk wr br 3 [.int .i64 x.first, .int .i64 x.approved[i]] := kr.2.1 _ kr.2.2.1
  have hbr8 : w8.heap.size ≤ br := FR
  have r8 := Ext.refl w8
  have hx8r : Ext w8 wr := FR
  have I0 : Hid (Ext w8 wr ∧ Own wr w8.heap.size 3 1 (.slice (some ⟨br, 0, none⟩) 2 2) (([x.first, appS x i] ++ (aftE p x b i).take 0).map intC)) := ⟨hx8r, own_of_blk10 hrb rfl (Nat.le_refl _) (by decide) rfl (by rw [hap.out]; rfl) (by simp [intC]) hbr8 (by simp)⟩
  have hb8 : Bl B w w8 := FR
  have hb8' : Bl B' w w8 := FR
  have k5' := (show Blk w8 b5 29 [f.u.f, f.u.b, f.u.l, f.u.r, .int .i64 s.switches, f.u.k, f.u.h] from k5.2.1 _ FR).bk
  have k6' := (show Blk w8 b6 33 [f.sv, f.av] from k6.2.1 _ FR).bk
  have k7' := (show Blk w8 b7 41 [f.q.w, f.q.a, .int .i64 x.blast, f.q.c, f.q.t, f.q.p, .int .i64 x.first, .int .i64 x.last] from k7.2.1 _ FR).bk
  have hxw8 : Ext w w8 := FR
  have hEl : Hid (∀ k (h : k < (afterS p i).length) (jn : Nat), (afterS p i)[k] = (jn : Int) → (aftE p x b i).take (k + 1) = (aftE p x b i).take k ++ [Sch.at_ b jn + takeS p x jn]) := fun k h jn e => by
    have h9 : k < (aftE p x b i).length := by simpa [aftE] using h
    rw [List.take_succ_eq_append_getElem h9]
    simp [aftE, e]
  have hEn : Hid ((aftE p x b i).length = (afterS p i).length) := by
    show (aftE p x b i).length = (afterS p i).length
    simp [aftE]
  clear hrb kr sr qr zr hx8r hbr8 k5 k6 k7 s5 s6 s7 s8 q5 q6 q7 n5 n6 n7 hbw hbw' hx
  have s8 := hxw8.st
  refine loop_g (afterS p i).length (fun g0 k g w' => g 12 = .int .i64 (k : Int) ∧ (g 3 = g0 3 ∧ g 4 = g0 4 ∧ g 5 = g0 5 ∧ g 6 = g0 6 ∧ g 7 = g0 7) ∧ ∃ u9, g 11 = u9 ∧ Hid (Ext w8 w' ∧ Own w' w8.heap.size 3 1 u9 (([x.first, appS x i] ++ (aftE p x b i).take k).map intC))) KR ?_ ?_ ?_
  · (repeat' first
    | with_reducible first | exact ⟨⟩ | (refine gB ?_; intros) | refine gT ?_ ?_
    | refine gs ?_
    | refine sx ?_)
    exact ⟨_, rfl, I0.out⟩
  · clear I0
    rintro k m g3 wk hk3 hlt n3 ⟨hi3, hf3, u9, h11, hp3⟩
    simp (maxDischargeDepth := 3) only [U, ↓reduceIte, Nat.reduceEqDiff, *] at hf3
    obtain ⟨hxk, hO⟩ := hp3.out
    have sk := hxk.st
    have rk := Ext.refl wk
    have ou9 := hO.one
    have hO3 : Hid (Own wk w8.heap.size 3 1 u9 (([x.first, appS x i] ++ (aftE p x b i).take k).map intC)) := hO
    have hw : IntKind.i64.wrap ((k : Int) + 1) = ((k + 1 : Nat) : Int) := by rw [wrap_i64_id] <;> omega
    obtain ⟨jn, hjn, hjl⟩ := hpl.out _ (List.getElem_mem hlt)
    have hltI : (k : Int) < ((afterS p i).length : Int) := by omega
    have hnx : Hid ([x.first, appS x i] ++ (aftE p x b i).take (k + 1) = ([x.first, appS x i] ++ (aftE p x b i).take k) ++ [Sch.at_ b jn + takeS p x jn]) := by
      show [x.first, appS x i] ++ (aftE p x b i).take (k + 1) = ([x.first, appS x i] ++ (aftE p x b i).take k) ++ [Sch.at_ b jn + takeS p x jn]
      rw [hEl.out k hlt jn hjn, List.append_assoc]
    have hend9 := fun w' h1 h2 => hend.out w' h1 h2 jn hjl
    have hbd : ([x.first, appS x i] ++ (aftE p x b i).take k).length < 1000000000000 := by
      have := hal.out.1
      have := hEn.out
      rw [List.length_append, List.length_take]
      simp only [List.length_cons, List.length_nil]
      omega
    replace hbd : Hid _ := hbd
    generalize hE : Sch.at_ b jn + takeS p x jn = E at *
    clear hp3 hO hE
    (repeat' first
    | ((with_reducible refine wpd_at 5 ?_); refine wpd_hold ?_)
    | with_reducible first | exact ⟨⟩ | (refine gB ?_; intros) | refine gT ?_ ?_
    | refine gs ?_
    | refine sx ?_)
    unfold wpdH
    refine wpd_rel 14 (fun iI v w9 => match iI with
      | 0 => v = u9
      | 1 => v = .agg #[f.sv, f.av]
      | 2 => v = .agg #[f.q.w, f.q.a, .int .i64 x.blast, f.q.c, f.q.t, f.q.p, .int .i64 x.first, .int .i64 x.last]
      | 3 => v = bv
      | 4 => v = .pointer (some ⟨b6, 1, none⟩)
      | 5 => v = f.av
      | 6 => v = .int .i64 (i : Int)
      | 7 => v = elemAt f.av 1 i
      | 8 => v = u
      | 9 => v = .int .i64 (k : Int)
      | 10 => v = elemAt u 1 k
      | 11 => v = .int .i64 (jn : Int)
      | 12 => v = .int .i64 E
      | 13 => ∃ b, v = .slice (some ⟨b, 0, none⟩) 1 1 ∧ Blk w9 b 3 [.int .i64 E] ∧ wk.heap.size ≤ b
      | _ => False) KR KR KR ?_ ?_ ?_
    · intro iI v w1 w2 hR hx9
      match iI, hR with
      | 0, h => exact h
      | 1, h => exact h
      | 2, h => exact h
      | 3, h => exact h
      | 4, h => exact h
      | 5, h => exact h
      | 6, h => exact h
      | 7, h => exact h
      | 8, h => exact h
      | 9, h => exact h
      | 10, h => exact h
      | 11, h => exact h
      | 12, h => exact h
      | 13, ⟨b, e, h1, h2⟩ => exact ⟨b, e, h1.ext hx9, h2⟩
    · intro iI oO hi ho gF w9 hx9 hdep hag
      have s9 := hx9.st
      have n9 : Now w9 := trivial
      have r9 := Ext.refl w9
      have z9 := hx9.size
      rcases iI with _|_|_|_|_|_|_|_|_|_|_|_|_|_|iI
      have e := Option.some.inj ho
      subst e
      have a11 := hag.at 11 KR
      simp only [S5, ↓reduceIte, Nat.reduceEqDiff, initF, *] at a11
      clear hag hdep ho
      refine relStep_off rfl ?_
      rotate_left
      have e := Option.some.inj ho
      subst e
      have a6 := hag.at 6 KR
      simp only [S5, ↓reduceIte, Nat.reduceEqDiff, initF, *] at a6
      clear hag hdep ho
      refine relStep_off rfl ?_
      rotate_left
      have e := Option.some.inj ho
      subst e
      have a7 := hag.at 7 KR
      simp only [S5, ↓reduceIte, Nat.reduceEqDiff, initF, *] at a7
      clear hag hdep ho
      refine relStep_off rfl ?_
      rotate_left
      have e := Option.some.inj ho
      subst e
      have a3 := hag.at 3 KR
      simp only [S5, ↓reduceIte, Nat.reduceEqDiff, initF, *] at a3
      clear hag hdep ho
      refine relStep_off rfl ?_
      rotate_left
      have e := Option.some.inj ho
      subst e
      have a6 := hag.at 6 KR
      simp only [S5, ↓reduceIte, Nat.reduceEqDiff, initF, *] at a6
      clear hag hdep ho
      refine relStep_off rfl ?_
      rotate_left
      have e := Option.some.inj ho
      subst e
      have d4 : (gF 41) = .pointer (some ⟨b6, 1, none⟩) := hdep ⟨4, .data⟩ (by simp) rfl _ _ rfl rfl
      clear hag hdep ho
      refine relStep_off rfl ?_
      rotate_left
      have e := Option.some.inj ho
      subst e
      have a4 := hag.at 4 KR
      simp only [S5, ↓reduceIte, Nat.reduceEqDiff, initF, *] at a4
      clear hag hdep ho
      refine relStep_off rfl ?_
      rotate_left
      have e := Option.some.inj ho
      subst e
      have d5 : (gF 42) = f.av := hdep ⟨5, .data⟩ (by simp) rfl _ _ rfl rfl
      have d6 : (gF 43) = .int .i64 (i : Int) := hdep ⟨6, .data⟩ (by simp) rfl _ _ rfl rfl
      clear hag hdep ho
      refine relStep_off rfl ?_
      rotate_left
      have e := Option.some.inj ho
      subst e
      have d7 : (gF 44) = elemAt f.av 1 i := hdep ⟨7, .data⟩ (by simp) rfl _ _ rfl rfl
      clear hag hdep ho
      refine relStep_off rfl ?_
      rotate_left
      have e := Option.some.inj ho
      subst e
      have a12 := hag.at 12 KR
      simp only [S5, ↓reduceIte, Nat.reduceEqDiff, initF, *] at a12
      clear hag hdep ho
      refine relStep_off rfl ?_
      rotate_left
      have e := Option.some.inj ho
      subst e
      have d8 : (gF 45) = u := hdep ⟨8, .data⟩ (by simp) rfl _ _ rfl rfl
      have d9 : (gF 46) = .int .i64 (k : Int) := hdep ⟨9, .data⟩ (by simp) rfl _ _ rfl rfl
      clear hag hdep ho
      refine relStep_off rfl ?_
      rotate_left
      have e := Option.some.inj ho
      subst e
      have d10 : (gF 47) = elemAt u 1 k := hdep ⟨10, .data⟩ (by simp) rfl _ _ rfl rfl
      clear hag hdep ho
      refine relStep_off rfl ?_
      rotate_left
      · have e := Option.some.inj ho
        subst e
        have d1 : (gF 38) = .agg #[f.sv, f.av] := hdep ⟨1, .data⟩ (by simp) rfl _ _ rfl rfl
        have d2 : (gF 39) = .agg #[f.q.w, f.q.a, .int .i64 x.blast, f.q.c, f.q.t, f.q.p, .int .i64 x.first, .int .i64 x.last] := hdep ⟨2, .data⟩ (by simp) rfl _ _ rfl rfl
        have d3 : (gF 40) = bv := hdep ⟨3, .data⟩ (by simp) rfl _ _ rfl rfl
        have d11 : (gF 48) = .int .i64 (jn : Int) := hdep ⟨11, .data⟩ (by simp) rfl _ _ rfl rfl
        clear hag hdep ho
        refine relStep_off rfl ?_
        (repeat' first
    | with_reducible first | exact ⟨⟩ | (refine gB ?_; intros) | refine gT ?_ ?_
    | refine gs ?_
    | simp (maxDischargeDepth := 3) only [↓X, ↓Y, ↓Q, S1, ↓reduceIte, Nat.reduceEqDiff, Nat.reduceAdd, Int.reduceLT, Int.reduceLE, Int.reduceNeg, Int.reduceBEq, Int.reduceBNe, Int.reduceEq, Nat.reduceLeDiff, Nat.reduceMul, Nat.reduceLT, *, hjn]
    | simp (singlePass := true) (maxDischargeDepth := 99) only [*, S2, Nat.reduceLT, hjn])
        refine CallsV.mono (hend9 _ FR FR) fun v w10 hh => ⟨hh.2, hh.1⟩
      · have e := Option.some.inj ho
        subst e
        have d12 : (gF 49) = .int .i64 E := hdep ⟨12, .data⟩ (by simp) rfl _ _ rfl rfl
        clear hag hdep ho
        refine relStep_off rfl ?_
        (repeat' first
    | with_reducible first | exact ⟨⟩ | (refine gB ?_; intros) | refine gT ?_ ?_
    | refine gs ?_
    | simp (maxDischargeDepth := 3) only [↓X, ↓Y, ↓Q, S1, ↓reduceIte, Nat.reduceEqDiff, Nat.reduceAdd, Int.reduceLT, Int.reduceLE, Int.reduceNeg, Int.reduceBEq, Int.reduceBNe, Int.reduceEq, Nat.reduceLeDiff, Nat.reduceMul, Nat.reduceLT, *, hjn]
    | simp (singlePass := true) (maxDischargeDepth := 99) only [*, S2, Nat.reduceLT, hjn])
        first
          | (rename_i b10 w10 n10 k10 s10 q10; exact ⟨_, rfl, k10.2.1 _ k10.2.2.1, FR⟩)
          | (rename_i b10 w10 n10 k10 s10 q10 l10; exact ⟨_, rfl, k10.2.1 _ k10.2.2.1, FR⟩)
      · omega
      all_goals (repeat' first
    | with_reducible first | exact ⟨⟩ | (refine gB ?_; intros) | refine gT ?_ ?_
    | refine gs ?_
    | simp (maxDischargeDepth := 3) only [↓X, ↓Y, ↓Q, S1, ↓reduceIte, Nat.reduceEqDiff, Nat.reduceAdd, Int.reduceLT, Int.reduceLE, Int.reduceNeg, Int.reduceBEq, Int.reduceBNe, Int.reduceEq, Nat.reduceLeDiff, Nat.reduceMul, Nat.reduceLT, *, hjn]
    | simp (singlePass := true) (maxDischargeDepth := 99) only [*, S2, Nat.reduceLT, hjn])
    · intro g9 w9 hx9 hR hag
      have s9 := hx9.st
      have n9 : Now w9 := trivial
      have r9 := Ext.refl w9
      have z9 := hx9.size
      have d0 : (g9 37) = u9 := hR 0 _ _ (by decide) rfl rfl
      have d13 : ∃ b, (g9 50) = .slice (some ⟨b, 0, none⟩) 1 1 ∧ Blk w9 b 3 [.int .i64 E] ∧ wk.heap.size ≤ b := hR 13 _ _ (by decide) rfl rfl
      obtain ⟨b13, e13, hb13, q13⟩ := d13
      have k13 := hb13.bk
      have nw13 := Nw.of q13
      have a3 := hag.at 3 KR
      have a4 := hag.at 4 KR
      have a5 := hag.at 5 KR
      have a6 := hag.at 6 KR
      have a7 := hag.at 7 KR
      have a12 := hag.at 12 KR
      simp only [S5, ↓reduceIte, Nat.reduceEqDiff, initF, *] at a3 a4 a5 a6 a7 a12
      clear hag hR
      simp only [List.drop_succ_cons, List.drop_zero]
      (repeat' first
    | with_reducible first | exact ⟨⟩ | (refine gB ?_; intros) | refine gT ?_ ?_
    | refine gs ?_
    | refine sx ?_)
      have xx : Ext w8 w9 := FR
      refine append_k (e := 3) (sz := 1) (by_ := 8) (z := .int .i64 0) (c := intC) (E) KR KR rfl (by decide) (by decide) (hO3.out.ext (show Ext wk w9 from FR)) hb13 rfl (by simp [intC, intV, one_int]) (hbd.out) xx.size fun v' wy ny sy hoy => ?_
      have xy : Ext w8 wy := FR
      have oy := hoy.one
      have I4 : Hid (Ext w8 wy ∧ Own wy w8.heap.size 3 1 v' (([x.first, appS x i] ++ (aftE p x b i).take (k + 1)).map intC)) := ⟨xy, by rw [hnx.out]; exact hoy⟩
      clear hoy hO3
      (repeat' first
    | with_reducible first | exact ⟨⟩ | (refine gB ?_; intros) | refine gT ?_ ?_
    | refine gs ?_
    | refine sx ?_)
      refine next_g hk3 hlt ?_
      (repeat' first
    | with_reducible first | exact ⟨⟩ | (refine gB ?_; intros) | refine gT ?_ ?_
    | refine gs ?_
    | refine sx ?_)
      exact ⟨_, rfl, I4.out.2⟩
  · clear I0
    rintro g3 wk n3 ⟨hi3, hf3, u9, h11, hp3⟩
    simp (maxDischargeDepth := 3) only [U, ↓reduceIte, Nat.reduceEqDiff, *] at hf3
    obtain ⟨hxk, hO⟩ := hp3.out
    have sk := hxk.st
    have rk := Ext.refl wk
    have ou9 := hO.one
    have hM : Hid ((aftE p x b i).take (afterS p i).length = aftE p x b i) := by
      show (aftE p x b i).take (afterS p i).length = aftE p x b i
      rw [← hEn.out, List.take_length]
    rw [hM.out] at hO
    have I1 : Hid (Ext w8 wk ∧ Own wk w8.heap.size 3 1 u9 (([x.first, appS x i] ++ aftE p x b i ++ (x.windows.map (·.frm)).take 0).map intC)) := ⟨hxk, by rw [List.take_zero, List.append_nil]; exact hO⟩
    have hWn : Hid (∀ k (h : k < x.windows.length), (x.windows.map (·.frm)).take (k + 1) = (x.windows.map (·.frm)).take k ++ [x.windows[k].frm]) := fun k h => by
      rw [List.take_succ_eq_append_getElem (by simpa using h)]
      simp
    have hLb : Hid (([x.first, appS x i] ++ aftE p x b i).length ≤ 14) := by
      show ([x.first, appS x i] ++ aftE p x b i).length ≤ 14
      have := hal.out.1
      have := hEn.out
      rw [List.length_append]
      simp only [List.length_cons, List.length_nil]
      omega
    have hWb : Hid (∀ k, ((x.windows.map (·.frm)).take k).length ≤ 16) := fun k => by
      have := hal.out.2.1
      rw [List.length_take, List.length_map]
      omega
    clear hp3 hO hEl hEn hM hend hpl
    (repeat' first
    | with_reducible first | exact ⟨⟩ | (refine gB ?_; intros) | refine gT ?_ ?_
    | refine gs ?_
    | refine sx ?_)
    refine loop_g x.windows.length (fun g0 k g w' => g 13 = .int .i64 (k : Int) ∧ (g 3 = g0 3 ∧ g 4 = g0 4 ∧ g 5 = g0 5 ∧ g 6 = g0 6 ∧ g 7 = g0 7) ∧ ∃ u9, g 11 = u9 ∧ Hid (Ext w8 w' ∧ Own w' w8.heap.size 3 1 u9 (([x.first, appS x i] ++ aftE p x b i ++ (x.windows.map (·.frm)).take k).map intC))) KR ?_ ?_ ?_
    · (repeat' first
    | with_reducible first | exact ⟨⟩ | (refine gB ?_; intros) | refine gT ?_ ?_
    | refine gs ?_
    | refine sx ?_)
      exact ⟨_, rfl, I1.out.2⟩
    · clear I1
      rintro k m g3 wk hk3 hlt n3 ⟨hi3, hf3, u9, h11, hp3⟩
      simp (maxDischargeDepth := 3) only [U, ↓reduceIte, Nat.reduceEqDiff, *] at hf3
      obtain ⟨hxk, hO⟩ := hp3.out
      have sk := hxk.st
      have rk := Ext.refl wk
      have ou9 := hO.one
      have hO3 : Hid (Own wk w8.heap.size 3 1 u9 (([x.first, appS x i] ++ aftE p x b i ++ (x.windows.map (·.frm)).take k).map intC)) := hO
      have hw : IntKind.i64.wrap ((k : Int) + 1) = ((k + 1 : Nat) : Int) := by rw [wrap_i64_id] <;> omega
      have hltI : (k : Int) < (x.windows.length : Int) := by omega
      have hnx : Hid ([x.first, appS x i] ++ aftE p x b i ++ (x.windows.map (·.frm)).take (k + 1) = ([x.first, appS x i] ++ aftE p x b i ++ (x.windows.map (·.frm)).take k) ++ [x.windows[k].frm]) := by
        show [x.first, appS x i] ++ aftE p x b i ++ (x.windows.map (·.frm)).take (k + 1) = ([x.first, appS x i] ++ aftE p x b i ++ (x.windows.map (·.frm)).take k) ++ [x.windows[k].frm]
        rw [hWn.out k hlt, List.append_assoc ([x.first, appS x i] ++ aftE p x b i)]
      have hbd : Hid (([x.first, appS x i] ++ aftE p x b i ++ (x.windows.map (·.frm)).take k).length < 1000000000000) := by
        show ([x.first, appS x i] ++ aftE p x b i ++ (x.windows.map (·.frm)).take k).length < 1000000000000
        have := hLb.out
        have := hWb.out k
        rw [List.length_append]
        omega
      clear hp3 hO
      (repeat' first
    | with_reducible first | exact ⟨⟩ | (refine gB ?_; intros) | refine gT ?_ ?_
    | refine gs ?_
    | simp (maxDischargeDepth := 3) only [↓X, ↓Y, ↓Q, S1, ↓reduceIte, Nat.reduceEqDiff, Nat.reduceAdd, Int.reduceLT, Int.reduceLE, Int.reduceNeg, Int.reduceBEq, Int.reduceBNe, Int.reduceEq, Nat.reduceLeDiff, Nat.reduceMul, Nat.reduceLT, *, windowV]
    | simp (singlePass := true) (maxDischargeDepth := 99) only [*, S2, Nat.reduceLT, windowV])
      rename_i bx wx nx kx sx9 qx zx
      clear zx
      have Kx : Blk wx bx 3 (intC x.windows[k].frm) := kx.2.1 _ kx.2.2.1
      have xx : Ext w8 wx := FR
      refine append_k (e := 3) (sz := 1) (by_ := 8) (z := .int .i64 0) (c := intC) x.windows[k].frm KR KR rfl (by decide) (by decide) (hO3.out.ext (show Ext wk wx from FR)) Kx rfl (by simp [intC, intV, one_int]) hbd.out xx.size fun v' wy ny sy hoy => ?_
      have xy : Ext w8 wy := FR
      have oy := hoy.one
      have I4 : Hid (Ext w8 wy ∧ Own wy w8.heap.size 3 1 v' (([x.first, appS x i] ++ aftE p x b i ++ (x.windows.map (·.frm)).take (k + 1)).map intC)) := ⟨xy, by rw [hnx.out]; exact hoy⟩
      clear hoy hO3 Kx kx sx9 qx
      (repeat' first
    | with_reducible first | exact ⟨⟩ | (refine gB ?_; intros) | refine gT ?_ ?_
    | refine gs ?_
    | refine sx ?_)
      refine next_g hk3 hlt ?_
      (repeat' first
    | with_reducible first | exact ⟨⟩ | (refine gB ?_; intros) | refine gT ?_ ?_
    | refine gs ?_
    | refine sx ?_)
      exact ⟨_, rfl, I4.out.2⟩
    · clear I1
      rintro g3 wk n3 ⟨hi3, hf3, u9, h11, hp3⟩
      simp (maxDischargeDepth := 3) only [U, ↓reduceIte, Nat.reduceEqDiff, *] at hf3
      obtain ⟨hxk, hO⟩ := hp3.out
      have sk := hxk.st
      have rk := Ext.refl wk
      have ou9 := hO.one
      rw [show (x.windows.map (·.frm)).take x.windows.length = x.windows.map (·.frm) by rw [List.take_of_length_le (by simp)]] at hO
      have hO3 : Hid (Own wk w8.heap.size 3 1 u9 (([x.first, appS x i] ++ aftE p x b i ++ x.windows.map (·.frm)).map intC)) := hO
      have hL2 : Hid (([x.first, appS x i] ++ aftE p x b i ++ x.windows.map (·.frm)).length ≤ 30) := by
        show ([x.first, appS x i] ++ aftE p x b i ++ x.windows.map (·.frm)).length ≤ 30
        have := hLb.out
        have := hal.out.2.1
        rw [List.length_append, List.length_map]
        omega
      clear hp3 hO hWn hWb hLb
      (repeat' first
    | with_reducible first | exact ⟨⟩ | (refine gB ?_; intros) | refine gT ?_ ?_
    | refine gs ?_
    | refine sx ?_)
      refine call_k (hout.out _ FR FR) ?_
      rintro _ wo no so ⟨uf, ut, rfl, huf, hut⟩
      have ouf := huf.one
      have out1 := hut.one
      have xo : Ext wk wo := FR
      have xo8 : Ext w8 wo := FR
      have hTL : Hid (((hostsN s).map fun h => toO (spanS p x b h)).length ≤ 16) := by
        show ((hostsN s).map fun h => toO (spanS p x b h)).length ≤ 16
        rw [List.length_map]
        have := hal.out.2.2
        simp only [hostsN, List.length_map, List.length_range]
        exact this
      have hut' : Hid (Sl wo wo.heap.size none 1 ut (((hostsN s).map fun h => toO (spanS p x b h)).map intV)) := hut.sl1 (f := intV)
      have hO4 : Hid (Own wo w8.heap.size 3 1 u9 (([x.first, appS x i] ++ aftE p x b i ++ x.windows.map (·.frm)).map intC)) := hO3.out.ext xo
      clear huf hut hout hO3
      (repeat' first
    | with_reducible first | exact ⟨⟩ | (refine gB ?_; intros) | refine gT ?_ ?_
    | refine gs ?_
    | refine sx ?_)
      refine appendAll23 (e := 3) (by_ := 8) (z := .int .i64 0) (B := w8.heap.size) (l := [x.first, appS x i] ++ aftE p x b i ++ x.windows.map (·.frm)) (r := (hostsN s).map fun h => toO (spanS p x b h)) (c := intV) KR KR rfl (by decide) hO4.out hut'.out (fun _ => rfl) (by have := hL2.out; have := hTL.out; omega) xo8.size fun v2 wv nv sv9 hown => ?_
      have xv8 : Ext w8 wv := FR
      have ov2 := hown.one
      have hMl : Hid ((momR s p x b i).length ≤ 46) := by
        show (momR s p x b i).length ≤ 46
        have := hL2.out
        have := hTL.out
        unfold momR
        rw [List.length_append]
        omega
      have hown' : Own wv w8.heap.size 3 1 v2 ((momR s p x b i).map intC) := hown
      have KV := (hown'.sl1 (f := intV)).k (Nat.le_refl _)
      have blv : Bl wv.heap.size wv wv := Bl.refl (Nat.le_refl _)
      generalize momR s p x b i = L at *
      have hL46 : L.length ≤ 46 := hMl.out
      clear hown hown' hO4 hut' hL2 hTL hMl so xo xo8 sk hxk rk
      have sv8 := xv8.st
      (repeat' first
    | with_reducible first | exact ⟨⟩ | (refine gB ?_; intros) | refine gT ?_ ?_
    | refine gs ?_
    | refine sx ?_)
      refine loop_k L.length (fun g0 k g _ => g 17 = .int .i64 k ∧ (g 3 = g0 3 ∧ g 4 = g0 4 ∧ g 5 = g0 5 ∧ g 6 = g0 6 ∧ g 7 = g0 7 ∧ g 11 = g0 11) ∧ g 16 = .int .i64 (Sch.bestR (L.take k) (Sch.poss (scS s p x) b i) (-1))) KR (by omega) ?_ ?_ ?_
      · (repeat' first
    | with_reducible first | exact ⟨⟩ | (refine gB ?_; intros) | refine gT ?_ ?_
    | refine gs ?_
    | simp (maxDischargeDepth := 3) only [↓X, ↓Y, ↓Q, S1, ↓reduceIte, Nat.reduceEqDiff, Nat.reduceAdd, Int.reduceLT, Int.reduceLE, Int.reduceNeg, Int.reduceBEq, Int.reduceBNe, Int.reduceEq, Nat.reduceLeDiff, Nat.reduceMul, Nat.reduceLT, *, List.take_zero]
    | simp (singlePass := true) (maxDischargeDepth := 99) only [*, S2, Nat.reduceLT, List.take_zero])
        exact rfl
      · rintro k m4 g4 wj hk hlt nj sj bj hw ⟨hi4, hf4, h16⟩
        simp (maxDischargeDepth := 3) only [U, ↓reduceIte, Nat.reduceEqDiff, *] at hf4
        have hkI : (k : Int) < (L.length : Int) := by omega
        have hnx : Sch.bestR (L.take (k + 1)) (Sch.poss (scS s p x) b i) (-1) = if 0 ≤ L[k] ∧ (Sch.bestR (L.take k) (Sch.poss (scS s p x) b i) (-1) < 0 ∨ L[k] < Sch.bestR (L.take k) (Sch.poss (scS s p x) b i) (-1)) ∧ Sch.poss (scS s p x) b i L[k] = true then L[k] else Sch.bestR (L.take k) (Sch.poss (scS s p x) b i) (-1) := by
          rw [List.take_succ_eq_append_getElem hlt, bestR_snoc]
        have hLr := hrng.out _ (List.getElem_mem hlt)
        have hpo9 := fun w' h1 h2 => hpos.out w' h1 h2 L[k] (by omega)
        generalize Sch.bestR (L.take k) (Sch.poss (scS s p x) b i) (-1) = q at *
        generalize Sch.poss (scS s p x) b i L[k] = pq at *
        have hnx' : Hid _ := hnx
        clear hnx
        by_cases h0 : 0 ≤ L[k]
        · by_cases hq : q < 0
          · cases pq
            · have e9 : Sch.bestR (L.take (k + 1)) (Sch.poss (scS s p x) b i) (-1) = q := by rw [hnx'.out, if_neg (fun h => by cases h.2.2)]
              (repeat' first
    | with_reducible first | exact ⟨⟩ | (refine gB ?_; intros) | refine gT ?_ ?_
    | refine gs ?_
    | ((with_reducible refine at_f 64 ?_); refine ret_k (hpo9 _ FR FR) fun _ _ _ => ?_)
    | refine sx ?_)
              refine next_k hk hlt ?_ FR
              (repeat' first
    | with_reducible first | exact ⟨⟩ | (refine gB ?_; intros) | refine gT ?_ ?_
    | refine gs ?_
    | simp (maxDischargeDepth := 3) only [↓X, ↓Y, ↓Q, S1, ↓reduceIte, Nat.reduceEqDiff, Nat.reduceAdd, Int.reduceLT, Int.reduceLE, Int.reduceNeg, Int.reduceBEq, Int.reduceBNe, Int.reduceEq, Nat.reduceLeDiff, Nat.reduceMul, Nat.reduceLT, *, e9]
    | simp (singlePass := true) (maxDischargeDepth := 99) only [*, S2, Nat.reduceLT, e9])
            · have e9 : Sch.bestR (L.take (k + 1)) (Sch.poss (scS s p x) b i) (-1) = L[k] := by rw [hnx'.out, if_pos ⟨h0, .inl hq, rfl⟩]
              (repeat' first
    | with_reducible first | exact ⟨⟩ | (refine gB ?_; intros) | refine gT ?_ ?_
    | refine gs ?_
    | ((with_reducible refine at_f 64 ?_); refine ret_k (hpo9 _ FR FR) fun _ _ _ => ?_)
    | refine sx ?_)
              refine next_k hk hlt ?_ FR
              (repeat' first
    | with_reducible first | exact ⟨⟩ | (refine gB ?_; intros) | refine gT ?_ ?_
    | refine gs ?_
    | simp (maxDischargeDepth := 3) only [↓X, ↓Y, ↓Q, S1, ↓reduceIte, Nat.reduceEqDiff, Nat.reduceAdd, Int.reduceLT, Int.reduceLE, Int.reduceNeg, Int.reduceBEq, Int.reduceBNe, Int.reduceEq, Nat.reduceLeDiff, Nat.reduceMul, Nat.reduceLT, *, e9]
    | simp (singlePass := true) (maxDischargeDepth := 99) only [*, S2, Nat.reduceLT, e9])
          · by_cases hq2 : L[k] < q
            · cases pq
              · have e9 : Sch.bestR (L.take (k + 1)) (Sch.poss (scS s p x) b i) (-1) = q := by rw [hnx'.out, if_neg (fun h => by cases h.2.2)]
                (repeat' first
    | with_reducible first | exact ⟨⟩ | (refine gB ?_; intros) | refine gT ?_ ?_
    | refine gs ?_
    | ((with_reducible refine at_f 64 ?_); refine ret_k (hpo9 _ FR FR) fun _ _ _ => ?_)
    | refine sx ?_)
                refine next_k hk hlt ?_ FR
                (repeat' first
    | with_reducible first | exact ⟨⟩ | (refine gB ?_; intros) | refine gT ?_ ?_
    | refine gs ?_
    | simp (maxDischargeDepth := 3) only [↓X, ↓Y, ↓Q, S1, ↓reduceIte, Nat.reduceEqDiff, Nat.reduceAdd, Int.reduceLT, Int.reduceLE, Int.reduceNeg, Int.reduceBEq, Int.reduceBNe, Int.reduceEq, Nat.reduceLeDiff, Nat.reduceMul, Nat.reduceLT, *, e9]
    | simp (singlePass := true) (maxDischargeDepth := 99) only [*, S2, Nat.reduceLT, e9])
              · have e9 : Sch.bestR (L.take (k + 1)) (Sch.poss (scS s p x) b i) (-1) = L[k] := by rw [hnx'.out, if_pos ⟨h0, .inr hq2, rfl⟩]
                (repeat' first
    | with_reducible first | exact ⟨⟩ | (refine gB ?_; intros) | refine gT ?_ ?_
    | refine gs ?_
    | ((with_reducible refine at_f 64 ?_); refine ret_k (hpo9 _ FR FR) fun _ _ _ => ?_)
    | refine sx ?_)
                refine next_k hk hlt ?_ FR
                (repeat' first
    | with_reducible first | exact ⟨⟩ | (refine gB ?_; intros) | refine gT ?_ ?_
    | refine gs ?_
    | simp (maxDischargeDepth := 3) only [↓X, ↓Y, ↓Q, S1, ↓reduceIte, Nat.reduceEqDiff, Nat.reduceAdd, Int.reduceLT, Int.reduceLE, Int.reduceNeg, Int.reduceBEq, Int.reduceBNe, Int.reduceEq, Nat.reduceLeDiff, Nat.reduceMul, Nat.reduceLT, *, e9]
    | simp (singlePass := true) (maxDischargeDepth := 99) only [*, S2, Nat.reduceLT, e9])
            · have e9 : Sch.bestR (L.take (k + 1)) (Sch.poss (scS s p x) b i) (-1) = q := by rw [hnx'.out, if_neg (fun h => h.2.1.elim hq hq2)]
              (repeat' first
    | with_reducible first | exact ⟨⟩ | (refine gB ?_; intros) | refine gT ?_ ?_
    | refine gs ?_
    | refine sx ?_)
              refine next_k hk hlt ?_ FR
              (repeat' first
    | with_reducible first | exact ⟨⟩ | (refine gB ?_; intros) | refine gT ?_ ?_
    | refine gs ?_
    | simp (maxDischargeDepth := 3) only [↓X, ↓Y, ↓Q, S1, ↓reduceIte, Nat.reduceEqDiff, Nat.reduceAdd, Int.reduceLT, Int.reduceLE, Int.reduceNeg, Int.reduceBEq, Int.reduceBNe, Int.reduceEq, Nat.reduceLeDiff, Nat.reduceMul, Nat.reduceLT, *, e9]
    | simp (singlePass := true) (maxDischargeDepth := 99) only [*, S2, Nat.reduceLT, e9])
        · have e9 : Sch.bestR (L.take (k + 1)) (Sch.poss (scS s p x) b i) (-1) = q := by rw [hnx'.out, if_neg (fun h => h0 h.1)]
          (repeat' first
    | with_reducible first | exact ⟨⟩ | (refine gB ?_; intros) | refine gT ?_ ?_
    | refine gs ?_
    | refine sx ?_)
          refine next_k hk hlt ?_ FR
          (repeat' first
    | with_reducible first | exact ⟨⟩ | (refine gB ?_; intros) | refine gT ?_ ?_
    | refine gs ?_
    | simp (maxDischargeDepth := 3) only [↓X, ↓Y, ↓Q, S1, ↓reduceIte, Nat.reduceEqDiff, Nat.reduceAdd, Int.reduceLT, Int.reduceLE, Int.reduceNeg, Int.reduceBEq, Int.reduceBNe, Int.reduceEq, Nat.reduceLeDiff, Nat.reduceMul, Nat.reduceLT, *, e9]
    | simp (singlePass := true) (maxDischargeDepth := 99) only [*, S2, Nat.reduceLT, e9])
      · rintro g4 wj nj sj bj ⟨hi4, hf4, h16⟩
        simp (maxDischargeDepth := 3) only [U, ↓reduceIte, Nat.reduceEqDiff, *] at hf4
        rw [List.take_length] at h16
        (repeat' first
    | with_reducible first | exact ⟨⟩ | (refine gB ?_; intros) | refine gT ?_ ?_
    | refine gs ?_
    | refine sx ?_)
end
end Go.Proofs.YtopfddchckdhgaaGreat
