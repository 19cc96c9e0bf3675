
/- The layer schedule: who is out of service, and when. -/
import Derived.Test.YtopfddchckdhgaaGreatFr23
import Derived.Test.YtopfddchckdhgaaGreatRel
namespace Go.Proofs.YtopfddchckdhgaaGreat
set_option linter.unusedSimpArgs false
set_option linter.unusedVariables false
open Go Go.RowKit
set_option maxRecDepth 100000
set_option linter.unusedSectionVars false
set_option maxHeartbeats 2000000
theorem sxFrO231 {p q : Prop} (hq : q) (h : p = q := by first | (simp (maxDischargeDepth := 3) only [↓X, ↓Y, ↓Q, S1, ↓reduceIte, Nat.reduceEqDiff, Nat.reduceAdd, Int.reduceLT, Int.reduceLE, Int.reduceNeg, Int.reduceBEq, Int.reduceBNe, Int.reduceEq, Nat.reduceLeDiff, Nat.reduceMul, Nat.reduceLT, *, stepV, stepC]; try exact rfl) | (simp (singlePass := true) (maxDischargeDepth := 99) only [*, S2, Nat.reduceLT, stepV, stepC]; try exact rfl)) : p := h ▸ hq
theorem int_under : Tryz.prog.underlying 3 = some (.int .i64) := by kernel_rfl
theorem span_under : Tryz.prog.underlying 123 = some (.map 3 126) := by kernel_rfl
theorem flag_under : Tryz.prog.underlying 161 = some (.map 3 4) := by kernel_rfl
theorem span_zero (w : World) : (zeroValue 126).run Tryz.prog w = .ok (.agg #[.int .i64 0, .int .i64 0]) w := by kernel_rfl
theorem flag_zero (w : World) : (zeroValue 4).run Tryz.prog w = .ok (.bool false) w := by kernel_rfl
theorem wf_i64 {n : Int} (h : 0 ≤ n ∧ n ≤ 1000000000) : (Lit.int .i64 n).wf = true := by
  have h1 : IntKind.i64.min = -9223372036854775808 := rfl
  have h2 : IntKind.i64.max = 9223372036854775807 := rfl
  simp [Lit.wf, h1, h2]
  omega
/-- A map of spans; a map of flags. -/
def SpM (l : List (Int × Value)) (F : Int → Option (Int × Int)) : Prop := ∀ h, getM l h = (F h).map spanV
def FlM (l : List (Int × Value)) (F : Int → Bool) : Prop := ∀ h, getM l h = if F h = true then some (.bool true) else none
theorem SpM.put {l : List (Int × Value)} {F G : Int → Option (Int × Int)} {h : Int} {v : Int × Int} (hm : SpM l F) (hG : ∀ y, G y = if y = h then some v else F y) : SpM (putM l h (spanV v)) G := fun y => by
  rw [getM_put, hG y]
  split
  · rfl
  · exact hm y
theorem FlM.put {l : List (Int × Value)} {F G : Int → Bool} {h : Int} (hm : FlM l F) (hG : ∀ y, G y = (F y || y == h)) : FlM (putM l h (.bool true)) G := fun y => by
  rw [getM_put, hG y]
  split
  · rename_i e; subst e; simp
  · rename_i e
    have : (y == h) = false := by simpa using e
    rw [this, Bool.or_false]
    exact hm y
theorem SpM.key {l : List (Int × Value)} {F : Int → Option (Int × Int)} (hm : SpM l F) {h : Int} {v : Value} (hn : (l.map (·.1)).Nodup) (he : (h, v) ∈ l) : ∃ y, F h = some y ∧ v = spanV y := by
  have h1 := (getM_iff hn).2 he
  rw [hm h] at h1
  obtain ⟨y, h2, h3⟩ := Option.map_eq_some_iff.1 h1
  exact ⟨y, h2, h3.symm⟩
theorem SpM.keys {l : List (Int × Value)} {F : Int → Option (Int × Int)} (hm : SpM l F) (hn : (l.map (·.1)).Nodup) (h : Int) : h ∈ l.map (·.1) ↔ (F h).isSome = true := by
  constructor
  · intro hh
    obtain ⟨⟨a, v⟩, hp, rfl⟩ := List.mem_map.1 hh
    obtain ⟨y, e, _⟩ := hm.key hn hp
    rw [e]; rfl
  · intro hh
    obtain ⟨y, e⟩ := Option.isSome_iff_exists.1 hh
    have := hm h
    rw [e] at this
    exact List.mem_map.2 ⟨_, (getM_iff hn).1 this, rfl⟩
section
variable {w w' : World} {fb : Nat} {f : FrV} {bv : Value} {s : SiteD} {p : PlanD} {x : TermsD} {b : List Int}
/-- Behind k steps: the two maps. -/
def OutI (w w' : World) (bo bm : Nat) (p : PlanD) (x : TermsD) (b : List Int) (k : Nat) : Prop := Ext w w' ∧ ∃ lo lm, MapS w' bo .i64 lo ∧ MapS w' bm .i64 lm ∧ FlM lo (fun h => openK p b h k) ∧ SpM lm (fun h => spanK p x b h k)
theorem OutI.ext {w w1 w' : World} {bo bm : Nat} {p : PlanD} {x : TermsD} {b : List Int} {k : Nat} (h : OutI w w1 bo bm p x b k) (hx : Ext w1 w') : OutI w w' bo bm p x b k := by
  obtain ⟨h1, lo, lm, h2, h3, h4⟩ := h
  exact ⟨h1.trans hx, lo, lm, h2.ext hx, h3.ext hx, h4⟩
/-- In the second loop: what is not left has been closed. -/
def OutJ (w w' : World) (bo bm rr : Nat) (p : PlanD) (x : TermsD) (b : List Int) (lo : List (Int × Value)) (left : List (Int × Value)) : Prop := Ext w w' ∧ MapS w' bo .i64 lo ∧ ∃ lm, RngS w' bm rr .i64 lm left ∧ SpM lm (fun h => closeS (decide (h ∉ left.map (·.1)) && openK p b h p.steps.length) (spanK p x b h p.steps.length))
theorem openK_skip {h : Int} {k : Nat} (hn : ¬ (outB p h k = true ∧ Sch.at_ b k = -1)) : openK p b h (k + 1) = openK p b h k := by
  rw [openK]
  cases h1 : outB p h k
  · simp
  · cases h2 : (Sch.at_ b k == -1)
    · simp
    · exact absurd ⟨h1, by simpa using h2⟩ hn
theorem spanK_skip {h : Int} {k : Nat} (hn : ¬ (outB p h k = true ∧ ¬ Sch.at_ b k = -1)) : spanK p x b h (k + 1) = spanK p x b h k := by
  rw [spanK, if_neg hn]
theorem out_at {h : Int} {k : Nat} (hk : k < p.steps.length) : outB p h k = true ↔ 3 ≤ p.steps[k].kind ∧ p.steps[k].host = h := by
  unfold outB
  rw [stepS_at hk]
  simp
theorem min_ite (a c : Int) : (if c < a then c else a) = min a c := by split <;> omega
theorem max_ite (a c : Int) : (if c > a then c else a) = max a c := by split <;> omega
theorem fit_hosts (hF : Fit s p x) : s.hosts.length ≤ 16 := by
  have := (site_all hF.site).2.2.2.2
  simp only [sizesB, btw, Bool.and_eq_true, decide_eq_true_eq] at this
  omega
theorem frOuts (hF : Fit s p x) (hb : BegD p b) (h : FrR w fb f bv s p x b) : CallsV Tryz.prog 56 #[.pointer (some ⟨fb, 0, none⟩)] w fun r w' => Ext w w' ∧ ∃ bm M, r = .map (some bm) ∧ MapS w' bm .i64 M ∧ SpM M (spanS p x b) := by
  have hn : Now w := trivial
  have hx : Ext w w := Ext.refl w
  have hk := h.k
  have he := fun w' (h2 : Ext w w') j (hj : j < p.steps.length) => frEnd hF hb (h.ext h2) hj
  replace he : Hid _ := he
  have hmax := h.arg.p.s.max_
  have hfk := fun w' (h2 : Ext w w') => (h.ext h2).k
  replace hfk : Hid _ := hfk
  have hlB : w.heap.size ≤ w.heap.size := Nat.le_refl _
  have hbl : b.length = p.steps.length := hb.len
  have hho : Hid (∀ i (hi : i < p.steps.length), (Lit.int .i64 p.steps[i].host).wf = true) := fun i hi => by
    have h1 := hF.host i hi
    rw [stepS_at hi] at h1
    have h2 := fit_hosts hF
    exact wf_i64 ⟨h1.1, by omega⟩
  replace hbl : Hid _ := hbl
  clear hF hb h
  (refine callsV_of Tryz.func56 rfl KR KR ?_; rw [Tryz.results56])
  (repeat' first
    | with_reducible first | exact ⟨⟩ | (refine gB ?_; intros) | refine gT ?_ ?_
    | refine gs ?_
    | refine sx ?_)
  refine mkmapS_k .i64 fun bo w1 n1 m1 s1 q1 l1 => ?_
  have r1 := Ext.refl w1
  (repeat' first
    | with_reducible first | exact ⟨⟩ | (refine gB ?_; intros) | refine gT ?_ ?_
    | refine gs ?_
    | refine sx ?_)
  refine mkmapS_k .i64 fun bm w2 n2 m2 s2 q2 l2 => ?_
  have hx2 : Ext w w2 := FR
  have hx12 : Ext w1 w2 := FR
  have hbom : ¬ bo = bm ∧ ¬ bm = bo := by have h3 : w1.heap.size ≤ bm := FR; omega
  have hwo : w.heap.size ≤ bo := FR
  have hwm : w.heap.size ≤ bm := FR
  have k2 := hfk.out w2 hx2
  have I0 : Hid (OutI w w2 bo bm p x b 0) := ⟨hx2, [], [], m1.ext hx12, m2, fun _ => rfl, fun _ => rfl⟩
  clear m1 m2 hk
  (repeat' first
    | with_reducible first | exact ⟨⟩ | (refine gB ?_; intros) | refine gT ?_ ?_
    | refine gs ?_
    | refine sx ?_)
  refine loop_g p.steps.length (fun g0 k g w' => g 19 = .int .i64 (k : Int) ∧ (g 0 = g0 0 ∧ g 3 = g0 3 ∧ g 4 = g0 4 ∧ g 17 = g0 17 ∧ g 18 = g0 18) ∧ Hid (OutI w w' bo bm p x b k)) KR ?_ ?_ ?_
  · (repeat' first
    | with_reducible first | exact ⟨⟩ | (refine gB ?_; intros) | refine gT ?_ ?_
    | refine gs ?_
    | refine sx ?_)
    all_goals exact I0.out
  · rintro k m g wk hk hlt nk ⟨hi, hf, hp⟩
    simp (maxDischargeDepth := 3) only [U, ↓reduceIte, Nat.reduceEqDiff, *] at hf
    obtain ⟨hxk, lo, lm, mo, mm, ho, hm⟩ := hp.out
    have kk := hfk.out wk hxk
    have rk := Ext.refl wk
    have hlb : k < b.length := by rw [hbl.out]; exact hlt
    have hwf := hho.out k hlt
    have hw : IntKind.i64.wrap ((k : Int) + 1) = ((k + 1 : Nat) : Int) := by rw [wrap_i64_id] <;> omega
    clear hp
    have hee := fun w' (h2 : Ext wk w') => he.out w' (hxk.trans h2) k hlt
    rw [at_at hlb] at hee
    replace mo : Hid (MapS wk bo .i64 lo) := mo
    replace mm : Hid (MapS wk bm .i64 lm) := mm
    replace ho : Hid (∀ h, getM lo h = if openK p b h k = true then some (.bool true) else none) := ho
    replace hm : Hid (∀ h, getM lm h = (spanK p x b h k).map spanV) := hm
    by_cases hkd : p.steps[k].kind < 3
    · have F : Hid (∀ w', Ext wk w' → OutI w w' bo bm p x b (k + 1)) := fun w' hx => ⟨hxk.trans hx, lo, lm, mo.out.ext hx, mm.out.ext hx, fun y => by
        have e := openK_skip (p := p) (b := b) (h := y) (k := k) fun h => by have := (out_at hlt).1 h.1; omega
        show _ = if openK p b y (k + 1) = true then _ else _; rw [e]; exact ho.out y, fun y => by
        have e := spanK_skip (p := p) (x := x) (b := b) (h := y) (k := k) fun h => by have := (out_at hlt).1 h.1; omega
        show _ = (spanK p x b y (k + 1)).map spanV; rw [e]; exact hm.out y⟩
      (repeat' first
    | with_reducible first | exact ⟨⟩ | (refine gB ?_; intros) | refine gT ?_ ?_
    | refine gs ?_
    | refine sxFrO231 ?_)
      refine next_g hk hlt ?_
      (repeat' first
    | with_reducible first | exact ⟨⟩ | (refine gB ?_; intros) | refine gT ?_ ?_
    | refine gs ?_
    | refine sx ?_)
      all_goals exact F.out _ FR
    · by_cases hun : b[k] = -1
      · have F : Hid (∀ w1 w', Ext wk w1 → MapS w' bo .i64 (putM lo p.steps[k].host (.bool true)) → Chg w1 w' bo → OutI w w' bo bm p x b (k + 1)) := fun w1 w' hx hM hC => ⟨(hxk.trans hx).trans' (hC.below hwo (hxk.trans hx).size), _, lm, hM, (mm.out.ext hx).keep (hC.block bm (mm.out.ext hx).lt hbom.2), FlM.put ho.out fun y => by
          rw [openK, at_at hlb, hun]
          congr 1
          rw [Bool.eq_iff_iff]
          simp only [beq_self_eq_true, Bool.and_true, beq_iff_eq]
          rw [out_at hlt]
          exact ⟨fun h => h.2.symm, fun h => ⟨by omega, h.symm⟩⟩, fun y => by
          have e := spanK_skip (p := p) (x := x) (b := b) (h := y) (k := k) fun h => h.2 (by rw [at_at hlb]; exact hun)
          show _ = (spanK p x b y (k + 1)).map spanV; rw [e]; exact hm.out y⟩
        have hMo : Hid (∀ w', Ext wk w' → MapS w' bo .i64 lo) := fun w' hx => mo.out.ext hx
        (repeat' first
    | with_reducible first | exact ⟨⟩ | (refine gB ?_; intros) | refine gT ?_ ?_
    | refine gs ?_
    | refine sxFrO231 ?_)
        rename_i b6 w6 n6 k6 s6 q6 w7 n7 k7 s7
        have hx7 : Ext wk w7 := FR
        refine updS_k rfl rfl rfl (hMo.out w7 hx7) int_under flag_under hwf fun w8 n8 m8 c8 s8 => ?_
        have F8 : Hid (OutI w w8 bo bm p x b (k + 1)) := F.out w7 w8 hx7 m8 c8
        clear m8 c8
        (repeat' first
    | with_reducible first | exact ⟨⟩ | (refine gB ?_; intros) | refine gT ?_ ?_
    | refine gs ?_
    | refine sx ?_)
        refine next_g hk hlt ?_
        (repeat' first
    | with_reducible first | exact ⟨⟩ | (refine gB ?_; intros) | refine gT ?_ ?_
    | refine gs ?_
    | refine sx ?_)
        all_goals exact F8.out
      · have hMm : Hid (∀ w', Ext wk w' → MapS w' bm .i64 lm) := fun w' hx => mm.out.ext hx
        have hgm := hm.out p.steps[k].host
        have F : Hid (∀ w1 w' v, Ext wk w1 → v = spanV (match spanK p x b p.steps[k].host k with | none => (b[k], b[k] + takeS p x k) | some (a, c) => (min a b[k], max c (b[k] + takeS p x k))) → MapS w' bm .i64 (putM lm p.steps[k].host v) → Chg w1 w' bm → OutI w w' bo bm p x b (k + 1)) := fun w1 w' v hx hv hM hC => ⟨(hxk.trans hx).trans' (hC.below hwm (hxk.trans hx).size), lo, _, (mo.out.ext hx).keep (hC.block bo (mo.out.ext hx).lt hbom.1), hM, fun y => by
          have e := openK_skip (p := p) (b := b) (h := y) (k := k) fun h => hun (by rw [← at_at hlb]; exact h.2)
          show _ = if openK p b y (k + 1) = true then _ else _; rw [e]; exact ho.out y, by
          rw [hv]
          refine SpM.put hm.out fun y => ?_
          rw [spanK, at_at hlb]
          by_cases hy : y = p.steps[k].host
          · subst hy
            rw [if_pos ⟨(out_at hlt).2 ⟨by omega, rfl⟩, hun⟩, if_pos rfl]
            cases spanK p x b p.steps[k].host k with
            | none => rfl
            | some q => obtain ⟨a, c⟩ := q; rfl
          · rw [if_neg hy, if_neg]
            intro h
            exact hy ((out_at hlt).1 h.1).2.symm⟩
        have hun2 : (b[k] == -1) = false := by simpa using hun
        cases hsp : spanK p x b p.steps[k].host k with
        | none =>
          simp only [hsp] at F hgm
          simp only [Option.map_none] at hgm
          replace F : Hid _ := F
          (repeat' first
    | with_reducible first | exact ⟨⟩ | (refine gB ?_; intros) | refine gT ?_ ?_
    | refine gs ?_
    | refine sxFrO231 ?_)
          rename_i b6 w6 n6 k6 s6 q6 w7 n7 k7 s7
          have hx7 : Ext wk w7 := FR
          refine lookup_k rfl rfl (hMm.out w7 hx7).mb int_under span_under hwf (span_zero _) ?_
          (repeat' first
    | ((with_reducible refine wpd_at 12 ?_); refine wpd_cmid (m := 20) KR KR KR rfl ?_)
    | ((with_reducible refine wpd_at 11 ?_); refine wpd_cmid (m := 11) KR KR KR rfl ?_)
    | with_reducible first | exact ⟨⟩ | (refine gB ?_; intros) | refine gT ?_ ?_
    | refine gs ?_
    | ((with_reducible refine at_q 55 ?_); refine qret_k (fun _ _ _ => hee _ FR) ?_)
    | simp (maxDischargeDepth := 3) only [↓X, ↓Y, ↓Q, S1, ↓reduceIte, Nat.reduceEqDiff, Nat.reduceAdd, Int.reduceLT, Int.reduceLE, Int.reduceNeg, Int.reduceBEq, Int.reduceBNe, Int.reduceEq, Nat.reduceLeDiff, Nat.reduceMul, Nat.reduceLT, *, stepV, stepC, hgm, Option.getD_none, Option.isSome_none]
    | simp (singlePass := true) (maxDischargeDepth := 99) only [*, S2, Nat.reduceLT, stepV, stepC, hgm, Option.getD_none, Option.isSome_none])
          rename_i wz nz sz
          have hxz : Ext wk wz := FR
          refine updS_k (val := .agg #[.int .i64 (if b[k] < b[k] then b[k] else b[k]), .int .i64 (if b[k] + takeS p x k > b[k] + takeS p x k then b[k] + takeS p x k else b[k] + takeS p x k)]) rfl rfl rfl (hMm.out wz hxz) int_under span_under hwf fun w9 n9 m9 c9 s9 => ?_
          have F9 : Hid (OutI w w9 bo bm p x b (k + 1)) := F.out wz w9 _ hxz (by simp [spanV, intV]) m9 c9
          have r9 := Ext.refl w9
          clear m9 c9
          (repeat' first
    | with_reducible first | exact ⟨⟩ | (refine gB ?_; intros) | refine gT ?_ ?_
    | refine gs ?_
    | refine sx ?_)
          refine next_g hk hlt ?_
          (repeat' first
    | with_reducible first | exact ⟨⟩ | (refine gB ?_; intros) | refine gT ?_ ?_
    | refine gs ?_
    | refine sx ?_)
          all_goals exact F9.out.ext FR
        | some q =>
          obtain ⟨a, c⟩ := q
          simp only [hsp] at F hgm
          simp only [Option.map_some] at hgm
          replace F : Hid _ := F
          (repeat' first
    | with_reducible first | exact ⟨⟩ | (refine gB ?_; intros) | refine gT ?_ ?_
    | refine gs ?_
    | refine sxFrO231 ?_)
          rename_i b6 w6 n6 k6 s6 q6 w7 n7 k7 s7
          have hx7 : Ext wk w7 := FR
          refine lookup_k rfl rfl (hMm.out w7 hx7).mb int_under span_under hwf (span_zero _) ?_
          (repeat' first
    | ((with_reducible refine wpd_at 12 ?_); refine wpd_cmid (m := 20) KR KR KR rfl ?_)
    | ((with_reducible refine wpd_at 11 ?_); refine wpd_cmid (m := 11) KR KR KR rfl ?_)
    | with_reducible first | exact ⟨⟩ | (refine gB ?_; intros) | refine gT ?_ ?_
    | refine gs ?_
    | ((with_reducible refine at_q 55 ?_); refine qret_k (fun _ _ _ => hee _ FR) ?_)
    | simp (maxDischargeDepth := 3) only [↓X, ↓Y, ↓Q, S1, ↓reduceIte, Nat.reduceEqDiff, Nat.reduceAdd, Int.reduceLT, Int.reduceLE, Int.reduceNeg, Int.reduceBEq, Int.reduceBNe, Int.reduceEq, Nat.reduceLeDiff, Nat.reduceMul, Nat.reduceLT, *, stepV, stepC, hgm, Option.getD_some, Option.isSome_some, spanV]
    | simp (singlePass := true) (maxDischargeDepth := 99) only [*, S2, Nat.reduceLT, stepV, stepC, hgm, Option.getD_some, Option.isSome_some, spanV])
          rename_i wz nz sz
          have hxz : Ext wk wz := FR
          refine updS_k (val := .agg #[.int .i64 (if b[k] < a then b[k] else a), .int .i64 (if b[k] + takeS p x k > c then b[k] + takeS p x k else c)]) rfl rfl rfl (hMm.out wz hxz) int_under span_under hwf fun w9 n9 m9 c9 s9 => ?_
          have F9 : Hid (OutI w w9 bo bm p x b (k + 1)) := F.out wz w9 _ hxz (by simp only [spanV, intV, min_ite, max_ite]) m9 c9
          have r9 := Ext.refl w9
          clear m9 c9
          (repeat' first
    | with_reducible first | exact ⟨⟩ | (refine gB ?_; intros) | refine gT ?_ ?_
    | refine gs ?_
    | refine sx ?_)
          refine next_g hk hlt ?_
          (repeat' first
    | with_reducible first | exact ⟨⟩ | (refine gB ?_; intros) | refine gT ?_ ?_
    | refine gs ?_
    | refine sx ?_)
          all_goals exact F9.out.ext FR
  · rintro g wk nk ⟨hi, hf, hp⟩
    simp (maxDischargeDepth := 3) only [U, ↓reduceIte, Nat.reduceEqDiff, *] at hf
    obtain ⟨hxk, lo, lm, mo, mm, ho, hm⟩ := hp.out
    have rk := Ext.refl wk
    have hgl : Hid (∀ h, getM lo h = if openK p b h p.steps.length = true then some (.bool true) else none) := ho
    have hKw : Hid (∀ q ∈ lm, (Lit.int .i64 q.1).wf = true) := mm.mb.wf
    have hKn : Hid (lm.map (·.1)).Nodup := mm.mb.nd
    have mo' : Hid (MapS wk bo .i64 lo) := mo
    have hm' : Hid (SpM lm fun h => spanK p x b h p.steps.length) := hm
    clear hp ho mo hm
    (repeat' first
    | with_reducible first | exact ⟨⟩ | (refine gB ?_; intros) | refine gT ?_ ?_
    | refine gs ?_
    | refine sx ?_)
    refine range_k rfl mm span_under fun rr wr nr mr sr qr => ?_
    have hxr : Ext wk wr := FR
    have hxwr : Ext w wr := hxk.trans hxr
    have hrr : wk.heap.size ≤ rr := qr.2.1 _ (Nat.le_refl _)
    have hwrr : w.heap.size ≤ rr := Nat.le_trans hxk.size hrr
    have hror : ¬ bo = rr := by have := mo'.out.lt; omega
    have I0 : Hid (OutJ w wr bo bm rr p x b lo lm) := ⟨hxwr, mo'.out.ext hxr, lm, mr, fun h => by
      rw [hm'.out h]
      congr 1
      by_cases hh : h ∈ lm.map (·.1)
      · simp only [hh, not_true_eq_false, decide_false, Bool.false_and]
        unfold closeS
        cases spanK p x b h p.steps.length <;> rfl
      · have e : spanK p x b h p.steps.length = none := by
          cases hq : spanK p x b h p.steps.length with
          | none => rfl
          | some q => exact absurd ((hm'.out.keys hKn.out h).2 (by show (spanK p x b h p.steps.length).isSome = true; rw [hq]; rfl)) hh
        show spanK p x b h p.steps.length = closeS _ (spanK p x b h p.steps.length)
        rw [e]; rfl⟩
    clear mr mm
    (repeat' first
    | with_reducible first | exact ⟨⟩ | (refine gB ?_; intros) | refine gT ?_ ?_
    | refine gs ?_
    | refine sx ?_)
    refine loop_m (fun g0 left g w' => (g 3 = g0 3 ∧ g 4 = g0 4 ∧ g 80 = g0 80) ∧ Hid (OutJ w w' bo bm rr p x b lo left)) lm KR ?_ ?_
    · (repeat' first
    | with_reducible first | exact ⟨⟩ | (refine gB ?_; intros) | refine gT ?_ ?_
    | refine gs ?_
    | refine sx ?_)
      all_goals exact I0.out
    · rintro left g1 w1 n1 ⟨hf1, hp1⟩
      simp (maxDischargeDepth := 3) only [U, ↓reduceIte, Nat.reduceEqDiff, *] at hf1
      obtain ⟨hx1, mo1, lm1, R1, hm1⟩ := hp1.out
      have r1 := Ext.refl w1
      have R1' : Hid (RngS w1 bm rr .i64 lm1 left) := R1
      have mo1' : Hid (MapS w1 bo .i64 lo) := mo1
      have hm1' : Hid (SpM lm1 (fun h => closeS (decide (h ∉ left.map (·.1)) && openK p b h p.steps.length) (spanK p x b h p.steps.length))) := hm1
      clear hp1 mo1 R1 hm1
      (repeat' first
    | with_reducible first | exact ⟨⟩ | (refine gB ?_; intros) | refine gT ?_ ?_
    | refine gs ?_
    | refine sx ?_)
      refine nextm_k hf1.2.2 R1'.out (fun h0 => ?_) fun h v w2 n2 hin R2 c2 s2 hen => ?_
      · subst h0
        have hfin : Hid (MapS w1 bm .i64 lm1 ∧ SpM lm1 (spanS p x b)) := ⟨R1'.out.m, fun h => by rw [hm1'.out h]; simp [spanS]⟩
        (repeat' first
    | with_reducible first | exact ⟨⟩ | (refine gB ?_; intros) | refine gT ?_ ?_
    | refine gs ?_
    | refine sx ?_)
        exact ⟨bm, lm1, rfl, hfin.out.1, hfin.out.2⟩
      · have hsub := R1'.out.sub _ hin
        obtain ⟨y, hy1, rfl⟩ := hm1'.out.key R1'.out.m.mb.nd hsub
        have hink : h ∈ left.map (·.1) := List.mem_map.2 ⟨_, hin, rfl⟩
        have hwf : (Lit.int .i64 h).wf = true := R1'.out.m.mb.wf _ hsub
        have hinl : Hid (h ∈ lm1.map (·.1)) := List.mem_map.2 ⟨_, hsub, rfl⟩
        have hy : Hid (spanK p x b h p.steps.length = some y) := by
          simp only [hink, not_true_eq_false, decide_false, Bool.false_and] at hy1
          unfold closeS at hy1
          cases hq : spanK p x b h p.steps.length with
          | none => rw [hq] at hy1; cases hy1
          | some q => rw [hq] at hy1; exact hy1
        have hx2 : Ext w w2 := hx1.trans' (c2.below hwrr hx1.size)
        have mo2 : Hid (MapS w2 bo .i64 lo) := mo1'.out.keep (c2.block bo mo1'.out.lt hror)
        have R2' : Hid (RngS w2 bm rr .i64 lm1 (left.filter fun p => !(p.1 == h))) := R2
        have hlen : Hid ((left.filter fun p => !(p.1 == h)).length < left.length) := filter_left hin
        have hout : Hid (h ∉ (left.filter fun p => !(p.1 == h)).map (·.1)) := fun hh => (mem_gone.1 hh).2 rfl
        have hgo : (getM lo h).getD (.bool false) = .bool (openK p b h p.steps.length) := by
          rw [hgl.out h]
          cases openK p b h p.steps.length <;> rfl
        have hstep : Hid (∀ lm2, (∀ z, getM lm2 z = if z = h then some (spanV (y.1, if openK p b h p.steps.length = true then 10000000 else y.2)) else getM lm1 z) → SpM lm2 (fun z => closeS (decide (z ∉ (left.filter fun p => !(p.1 == h)).map (·.1)) && openK p b z p.steps.length) (spanK p x b z p.steps.length))) := fun lm2 h2 z => by
          rw [h2 z]
          split
          · rename_i e
            subst e
            show _ = (closeS (decide (z ∉ (left.filter fun p => !(p.1 == z)).map (·.1)) && openK p b z p.steps.length) (spanK p x b z p.steps.length)).map spanV
            rw [hy.out, show decide (z ∉ (left.filter fun p => !(p.1 == z)).map (·.1)) = true from decide_eq_true hout.out, Bool.true_and]
            rfl
          · rename_i e
            rw [hm1'.out z]
            have : decide (z ∉ (left.filter fun p => !(p.1 == h)).map (·.1)) = decide (z ∉ left.map (·.1)) := by
              rw [decide_eq_decide, mem_gone]
              exact ⟨fun a b => a ⟨b, e⟩, fun a b => a b.1⟩
            show (closeS (decide (z ∉ left.map (·.1)) && openK p b z p.steps.length) (spanK p x b z p.steps.length)).map spanV = (closeS (decide (z ∉ (left.filter fun p => !(p.1 == h)).map (·.1)) && openK p b z p.steps.length) (spanK p x b z p.steps.length)).map spanV
            rw [this]
        have r2 := Ext.refl w2
        replace hin : Hid _ := hin
        clear c2 s2 hy1 R2
        obtain ⟨ya, yc⟩ := y
        (repeat' first
    | with_reducible first | exact ⟨⟩ | (refine gB ?_; intros) | refine gT ?_ ?_
    | refine gs ?_
    | refine sx ?_)
        refine entry_k hf1.2.2 hen ?_
        (repeat' first
    | with_reducible first | exact ⟨⟩ | (refine gB ?_; intros) | refine gT ?_ ?_
    | refine gs ?_
    | simp (maxDischargeDepth := 3) only [↓X, ↓Y, ↓Q, S1, ↓reduceIte, Nat.reduceEqDiff, Nat.reduceAdd, Int.reduceLT, Int.reduceLE, Int.reduceNeg, Int.reduceBEq, Int.reduceBNe, Int.reduceEq, Nat.reduceLeDiff, Nat.reduceMul, Nat.reduceLT, *, spanV]
    | simp (singlePass := true) (maxDischargeDepth := 99) only [*, S2, Nat.reduceLT, spanV])
        rename_i b5 w5 n5 k5 s5 q5 w6 n6 k6 s6
        have hxy : Ext w2 w6 := FR
        refine lookup_k rfl rfl (mo2.out.ext hxy).mb int_under flag_under hwf (flag_zero _) ?_
        cases hop : openK p b h p.steps.length <;> rw [hop] at hgo hstep
        · have F : Hid (∀ w', Ext w2 w' → OutJ w w' bo bm rr p x b lo (left.filter fun p => !(p.1 == h))) := fun w' hx => ⟨hx2.trans hx, mo2.out.ext hx, lm1, R2'.out.ext hx, hstep.out lm1 fun z => by
            split
            · rename_i e
              subst e
              have := hm1'.out z
              simp only [hop, Bool.and_false] at this
              rw [this, hy.out]; rfl
            · rfl⟩
          (repeat' first
    | with_reducible first | exact ⟨⟩ | (refine gB ?_; intros) | refine gT ?_ ?_
    | refine gs ?_
    | simp (maxDischargeDepth := 3) only [↓X, ↓Y, ↓Q, S1, ↓reduceIte, Nat.reduceEqDiff, Nat.reduceAdd, Int.reduceLT, Int.reduceLE, Int.reduceNeg, Int.reduceBEq, Int.reduceBNe, Int.reduceEq, Nat.reduceLeDiff, Nat.reduceMul, Nat.reduceLT, *, hgo]
    | simp (singlePass := true) (maxDischargeDepth := 99) only [*, S2, Nat.reduceLT, hgo])
          refine next_m hlen.out ?_
          (repeat' first
    | with_reducible first | exact ⟨⟩ | (refine gB ?_; intros) | refine gT ?_ ?_
    | refine gs ?_
    | refine sx ?_)
          all_goals exact F.out _ FR
        · (repeat' first
    | with_reducible first | exact ⟨⟩ | (refine gB ?_; intros) | refine gT ?_ ?_
    | refine gs ?_
    | simp (maxDischargeDepth := 3) only [↓X, ↓Y, ↓Q, S1, ↓reduceIte, Nat.reduceEqDiff, Nat.reduceAdd, Int.reduceLT, Int.reduceLE, Int.reduceNeg, Int.reduceBEq, Int.reduceBNe, Int.reduceEq, Nat.reduceLeDiff, Nat.reduceMul, Nat.reduceLT, *, hgo]
    | simp (singlePass := true) (maxDischargeDepth := 99) only [*, S2, Nat.reduceLT, hgo])
          refine updR_k (val := spanV (ya, 10000000)) rfl rfl rfl (R2'.out.ext hxy) int_under span_under hwf hinl.out hout.out fun w3 n3 R3 c3 s3 => ?_
          have F : Hid (OutJ w w3 bo bm rr p x b lo (left.filter fun p => !(p.1 == h))) := ⟨(hx2.trans hxy).trans' (c3.below hwm (hx2.trans hxy).size), (mo2.out.ext hxy).keep (c3.block bo (mo2.out.ext hxy).lt hbom.1), _, R3, hstep.out _ fun z => by rw [getM_put]; rfl⟩
          clear R3 c3
          (repeat' first
    | with_reducible first | exact ⟨⟩ | (refine gB ?_; intros) | refine gT ?_ ?_
    | refine gs ?_
    | refine sx ?_)
          refine next_m hlen.out ?_
          (repeat' first
    | with_reducible first | exact ⟨⟩ | (refine gB ?_; intros) | refine gT ?_ ?_
    | refine gs ?_
    | refine sx ?_)
end
end Go.Proofs.YtopfddchckdhgaaGreat
