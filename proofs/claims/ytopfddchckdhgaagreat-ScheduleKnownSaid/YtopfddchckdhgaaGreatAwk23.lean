
/- The examples of the statements on layer 23: awake. -/
import Derived.Test.YtopfddchckdhgaaGreatLive23
namespace Go.Proofs.YtopfddchckdhgaaGreat
set_option linter.unusedSimpArgs false
set_option linter.unusedVariables false
open Go Go.RowKit
set_option maxRecDepth 100000
set_option linter.unusedSectionVars false
set_option maxHeartbeats 4000000
theorem ex_make0 : makeS (houseD 2) twoD (termsD 4 0) = (⟨[0, 2, 0, 2], 4⟩, -1, 0) := by kernel_rfl
theorem ex_make1 : makeS (houseD 2) twoD (termsD 4 1) = (⟨[0, 2, 4, 6], 8⟩, -1, 0) := by kernel_rfl
def lateD : TermsD := ⟨[⟨1, 1, 10, 13⟩], [], 0, [0, 2, 2, 2, 2, 2, 2, 2], List.replicate 4 (-1), 0, 100⟩
theorem ex_late : makeS (houseD 2) twoD lateD = (noT, 3, 7) := by kernel_rfl
theorem ex_check : checkS (houseD 2) twoD (termsD 4 1) ⟨[0, 2, 0, 2], 4⟩ = (⟨5, 0, 2⟩, 13) := by kernel_rfl
theorem ex_at : atS twoD (termsD 4 0) ⟨[0, 2, 0, 2], 4⟩ 2 = (5, 15) := by kernel_rfl
theorem two_kinds : ∀ t ∈ twoD.steps, 0 ≤ t.kind ∧ t.kind ≤ 255 := by
  intro t ht
  simp only [twoD, List.mem_cons, List.not_mem_nil, or_false] at ht
  rcases ht with rfl | rfl | rfl | rfl <;> simp
def TabV (w : World) (v : Value) (t : TableD) : Prop := ∃ tv B, v = .agg #[tv, intV t.stop] ∧ Own w B 3 1 tv (t.begin_.map intC)
section
variable {w w' : World}
theorem TabV.ext {v : Value} {t : TableD} (h : TabV w v t) (hx : Ext w w') : TabV w' v t := by
  obtain ⟨a, B, e, o⟩ := h
  exact ⟨a, B, e, o.ext hx⟩
theorem TabV.fr {v : Value} {t : TableD} {b T : Nat} {z : List Value} (h : TabV w v t) (hz : Blk w b T z) (hc : Chg w w' b) (h1 : T ≠ 3 := by decide) : TabV w' v t := by
  obtain ⟨a, B, e, o⟩ := h
  exact ⟨a, B, e, o.fr hz hc (.inl h1)⟩
theorem argT_of {hv pv tv : Value} {n : Nat} {c : Int} (h1 : HouV w hv n) (h2 : TwoV w pv) (h3 : TrmV w tv 4 c) : ∃ f : FrV, hv = .agg (siteC f.u (houseD n)).toArray ∧ pv = .agg #[f.sv, f.av] ∧ tv = .agg (termsC f.q (termsD 4 c)).toArray ∧ ArgT w w.heap.size f (houseD n) twoD (termsD 4 c) := by
  obtain ⟨u, rfl, hu⟩ := h1.site
  obtain ⟨sv, av, vs, rfl, hp⟩ := h2.plan
  obtain ⟨q, rfl, hq⟩ := h3.terms
  exact ⟨⟨u, sv, av, vs, q⟩, rfl, rfl, rfl, hu, hp, hq⟩
theorem make_at {hv pv : Value} {q : TermsVs} {x : TermsD} {T : TableD} {i e : Int} (h1 : HouV w hv 2) (h2 : TwoV w pv) (h3 : TermsT w w.heap.size q x) (hm : makeS (houseD 2) twoD x = (T, i, e)) : CallsV Tryz.prog 11 #[hv, pv, .agg (termsC q x).toArray] w fun r w' => Ext w w' ∧ ∃ t, r = .tuple #[t, intV i, intV e] ∧ TabV w' t T := by
  obtain ⟨u, rfl, hu⟩ := h1.site
  obtain ⟨sv, av, vs, rfl, hp⟩ := h2.plan
  refine CallsV.mono (schedMake (f := ⟨u, sv, av, vs, q⟩) (Nat.le_refl _) ⟨hu, hp, h3⟩ two_kinds) ?_
  rintro _ w' ⟨hx, tv, rfl, ho⟩
  rw [hm] at ho ⊢
  exact ⟨hx, _, rfl, tv, _, rfl, ho⟩
theorem make_of {hv pv tv : Value} {n : Nat} {c : Int} {T : TableD} {i e : Int} (h1 : HouV w hv 2) (h2 : TwoV w pv) (h3 : TrmV w tv n c) (hm : makeS (houseD 2) twoD (termsD n c) = (T, i, e)) : CallsV Tryz.prog 11 #[hv, pv, tv] w fun r w' => Ext w w' ∧ ∃ t, r = .tuple #[t, intV i, intV e] ∧ TabV w' t T := by
  obtain ⟨q, rfl, hq⟩ := h3.terms
  exact make_at h1 h2 hq hm
def lateV (c33 c7 : Nat) (av : Value) : Value := .agg #[.slice (some ⟨c33, 0, none⟩) 1 1, .slice none 0 0, .int .i64 0, .slice none 0 0, .slice (some ⟨c7, 0, none⟩) 8 8, av, .int .i64 0, .int .i64 100]
def LateV (w : World) (v : Value) : Prop := ∃ c33 c7 av B, v = lateV c33 c7 av ∧ Blk w c33 79 [.int .u8 1, .int .i64 1, .int .i64 10, .int .i64 13] ∧ Blk w c7 3 takesV ∧ Own w B 3 1 av ((List.replicate 4 (-1)).map intC)
theorem LateV.terms {v : Value} (h : LateV w v) : ∃ q, v = .agg (termsC q lateD).toArray ∧ TermsT w w.heap.size q lateD := by
  obtain ⟨c33, c7, av, B, rfl, k1, k2, o⟩ := h
  refine ⟨⟨_, _, _, _, _⟩, rfl, ?_⟩
  refine ⟨row_of (l := [[.int .u8 1, .int .i64 1, .int .i64 10, .int .i64 13]]) k1 rfl rfl (by simp) (by simp), Sl.nil _ _ _ _, row_sl (l := [0, 2, 2, 2, 2, 2, 2, 2].map intV) k2 rfl (by simp), ?_, rfl⟩
  exact o.sl1 (f := intV)
theorem late_of {hv pv tv : Value} {T : TableD} {i e : Int} (h1 : HouV w hv 2) (h2 : TwoV w pv) (h3 : LateV w tv) (hm : makeS (houseD 2) twoD lateD = (T, i, e)) : CallsV Tryz.prog 11 #[hv, pv, tv] w fun r w' => Ext w w' ∧ ∃ t, r = .tuple #[t, intV i, intV e] ∧ TabV w' t T := by
  obtain ⟨q, rfl, hq⟩ := h3.terms
  exact make_at h1 h2 hq hm
theorem check_of {hv pv tv bv : Value} {B : Nat} {n : Nat} {c m e : Int} {b : List Int} {br : BreachD} (h1 : HouV w hv 2) (h2 : TwoV w pv) (h3 : TrmV w tv n c) (h4 : Own w B 3 1 bv (b.map intC)) (hm : checkS (houseD 2) twoD (termsD n c) ⟨b, m⟩ = (br, e)) : Ret Tryz.prog 15 #[hv, pv, tv, .agg #[bv, .int .i64 m]] w (.tuple #[.agg (breachC br).toArray, intV e]) := by
  obtain ⟨u, rfl, hu⟩ := h1.site
  obtain ⟨sv, av, vs, rfl, hp⟩ := h2.plan
  obtain ⟨q, rfl, hq⟩ := h3.terms
  have := schedCheck (f := ⟨u, sv, av, vs, q⟩) (stop := m) (Nat.le_refl _) ⟨hu, hp, hq⟩ two_kinds (h4.sl1 (f := intV))
  rw [hm] at this
  exact this
theorem at_of {pv tv bv : Value} {B : Nat} {n d g : Nat} {c m now : Int} {b : List Int} (h2 : TwoV w pv) (h3 : TrmV w tv n c) (h4 : Own w B 3 1 bv (b.map intC)) (hm : atS twoD (termsD n c) ⟨b, m⟩ now = (d, g)) : Ret Tryz.prog 16 #[pv, tv, .agg #[bv, .int .i64 m], .int .i64 now] w (.tuple #[natV d, natV g]) := by
  obtain ⟨sv, av, vs, rfl, hp⟩ := h2.plan
  obtain ⟨q, rfl, hq⟩ := h3.terms
  have := schedAt (f := ⟨⟨.slice none 0 0, .slice none 0 0, .slice none 0 0, .slice none 0 0, .slice none 0 0, .slice none 0 0⟩, sv, av, vs, q⟩) (s := ⟨[], [], [], [], 0, [], []⟩) (stop := m) (now := now) (Nat.le_refl _) ⟨⟨Sl.nil _ _ _ _, Sl.nil _ _ _ _, Sl.nil _ _ _ _, Sl.nil _ _ _ _, Sl.nil _ _ _ _, Sl.nil _ _ _ _⟩, hp, hq⟩ two_kinds (h4.sl1 (f := intV))
  rw [hm] at this
  exact this
theorem same_of {tt : Value} {B bx n : Nat} {l l' : List Int} {m m' : Int} (h : Own w B 3 1 tt (l.map intC)) (hb : Blk w bx 3 (l'.map intV)) (hn : l'.length = n) (hs : l'.length ≤ 1000) (hm : sameT ⟨l, m⟩ ⟨l', m'⟩ = true) : Ret Tryz.prog 13 #[.agg #[tt, .int .i64 m], .agg #[.slice (some ⟨bx, 0, none⟩) n n, .int .i64 m']] w (.bool true) := by
  rw [← hm]
  exact refSame (Nat.le_refl _) (Nat.le_refl _) (h.sl1 (f := intV)) (row_sl hb (by rw [← hn, List.length_map]) (by rw [List.length_map]; omega))
theorem law23awake : Ret Tryz.prog 10 #[] w (.bool true) := by
  have hn : Now w := trivial
  have hx : Ext w w := Ext.refl w
  (refine callsV_of Tryz.func10 rfl KR KR ?_; rw [Tryz.results10])
  (repeat' first
    | with_reducible first | exact ⟨⟩ | (refine gB ?_; intros) | refine gT ?_ ?_
    | refine gs ?_
    | refine sx ?_)
  refine call_k (law23house (n := 2) (by decide)) ?_
  rintro hv1 w1 n1 s1 hH1
  have r1 := Ext.refl w1
  (repeat' first
    | with_reducible first | exact ⟨⟩ | (refine gB ?_; intros) | refine gT ?_ ?_
    | refine gs ?_
    | refine sx ?_)
  refine call_k law23two ?_
  rintro pv1 w2 n2 s2 hP1
  have r2 := Ext.refl w2
  have hH2 : HouV w2 hv1 2 := hH1.ext FR
  (repeat' first
    | with_reducible first | exact ⟨⟩ | (refine gB ?_; intros) | refine gT ?_ ?_
    | refine gs ?_
    | refine sx ?_)
  refine call_k (law23terms (n := 4) (blast := 0) (by decide)) ?_
  rintro tv1 w3 n3 s3 hT1
  have r3 := Ext.refl w3
  have hH3 : HouV w3 hv1 2 := hH2.ext FR
  have hP3 : TwoV w3 pv1 := hP1.ext FR
  (repeat' first
    | with_reducible first | exact ⟨⟩ | (refine gB ?_; intros) | refine gT ?_ ?_
    | refine gs ?_
    | refine sx ?_)
  refine call_k (make_of hH3 hP3 hT1 ex_make0) ?_
  rintro _ w4 n4 s4 ⟨_, rfl, tt1, B1, rfl, ho1⟩
  have hone1 := ho1.one
  have r4 := Ext.refl w4
  have hx4 : Ext w w4 := FR
  clear hH1 hH2 hP1 hH3 hP3 hT1 s1 s2 s3 r1 r2 r3 n1 n2 n3
  (repeat' first
    | with_reducible first | exact ⟨⟩ | (refine gB ?_; intros) | refine gT ?_ ?_
    | refine gs ?_
    | refine sx ?_)
  rename_i b1 w5 n5 k5 s5 q5 w6 n6 k6 s6
  have ho6 : Own w6 B1 3 1 tt1 ([0, 2, 0, 2].map intC) := ho1.ext FR
  have r6 := Ext.refl w6
  refine call_k (law23house (n := 2) (by decide)) ?_
  rintro hv1 w1 n1 s1 hH1
  have r1 := Ext.refl w1
  (repeat' first
    | with_reducible first | exact ⟨⟩ | (refine gB ?_; intros) | refine gT ?_ ?_
    | refine gs ?_
    | refine sx ?_)
  refine call_k law23two ?_
  rintro pv1 w2 n2 s2 hP1
  have r2 := Ext.refl w2
  have hH2 : HouV w2 hv1 2 := hH1.ext FR
  (repeat' first
    | with_reducible first | exact ⟨⟩ | (refine gB ?_; intros) | refine gT ?_ ?_
    | refine gs ?_
    | refine sx ?_)
  refine call_k (law23terms (n := 4) (blast := 1) (by decide)) ?_
  rintro tv1 w3 n3 s3 hT1
  have r3 := Ext.refl w3
  have hH3 : HouV w3 hv1 2 := hH2.ext FR
  have hP3 : TwoV w3 pv1 := hP1.ext FR
  (repeat' first
    | with_reducible first | exact ⟨⟩ | (refine gB ?_; intros) | refine gT ?_ ?_
    | refine gs ?_
    | refine sx ?_)
  refine call_k (make_of hH3 hP3 hT1 ex_make1) ?_
  rintro _ w7 n7 s7 ⟨_, rfl, tt2, B2, rfl, ho2⟩
  have hone2 := ho2.one
  have r7 := Ext.refl w7
  have kb1 : Bk w7 b1 45 [tt1, .int .i64 4] := (show Blk w7 b1 _ _ from k6.2.1 _ FR).bk
  have ho7 : Own w7 B1 3 1 tt1 ([0, 2, 0, 2].map intC) := ho6.ext FR
  have hx47 : Ext w4 w7 := FR
  have hx7 : Ext w w7 := hx4.trans hx47
  clear hH1 hH2 hP1 hH3 hP3 hT1 s1 s2 s3 r1 r2 r3 n1 n2 n3 ho1 ho6 k6 k5 s5 s6 q5 r6 r4 s4 s7
  (repeat' first
    | with_reducible first | exact ⟨⟩ | (refine gB ?_; intros) | refine gT ?_ ?_
    | refine gs ?_
    | refine sx ?_)
  rename_i b4 w8 n8 k8 s8 q8 wa na ka sa
  have hoa : Own wa B1 3 1 tt1 ([0, 2, 0, 2].map intC) := ho7.ext FR
  have ho2a : Own wa B2 3 1 tt2 ([0, 2, 4, 6].map intC) := ho2.ext FR
  have ka1 : Bk wa b1 45 [tt1, .int .i64 4] := (show Blk wa b1 _ _ from kb1.2.1 _ FR).bk
  have hx7a : Ext w7 wa := FR
  have hxa : Ext w wa := hx7.trans hx7a
  have ra := Ext.refl wa
  clear k8 s8 q8 n8 sa kb1 ho7 ho2 hx7a r7 hx47 hx4 hx7
  refine call_k (law23terms (n := 4) (blast := 0) (by decide)) ?_
  rintro _ w3 n3 s3 ⟨c7, av, B7, rfl, kc7, ho7, _⟩
  have hone7 := ho7.one
  have r3 := Ext.refl w3
  (repeat' first
    | with_reducible first | exact ⟨⟩ | (refine gB ?_; intros) | refine gT ?_ ?_
    | refine gs ?_
    | refine sx ?_)
  rename_i b7 w5 n5 k5 s5 q5 w6 n6 k6 s6 b33 w9 n9 k9 s9 q9
  have q33 : ¬ b33 = b7 := by have h1 := (show Blk w6 b7 _ _ from k6.2.1 _ k6.2.2.1).lt; have h2 := (show w6.heap.size ≤ b33 from FR); omega
  refine st_one (i := 0) KR (by simp) rfl fun wk nk kk sk => ?_
  simp only [List.set_cons_zero] at kk
  have k33 : Blk wk b33 79 [.int .u8 1, .int .i64 1, .int .i64 10, .int .i64 13] := k9.2.1 _ FR
  have hx3 : Ext w3 wk := FR
  have hL : Hid (∀ w', Ext wk w' → LateV w' (lateV b33 c7 av)) := fun w' hx' => ⟨_, _, _, _, rfl, k33.ext hx', (kc7.ext hx3).ext hx', (ho7.ext hx3).ext hx'⟩
  have hob : Own wk B1 3 1 tt1 ([0, 2, 0, 2].map intC) := hoa.ext FR
  have ho2b : Own wk B2 3 1 tt2 ([0, 2, 4, 6].map intC) := ho2a.ext FR
  have kb1 : Bk wk b1 45 [tt1, .int .i64 4] := (show Blk wk b1 _ _ from ka1.2.1 _ FR).bk
  have kb4 : Bk wk b4 45 [tt2, .int .i64 8] := (show Blk wk b4 _ _ from ka.2.1 _ FR).bk
  have hxak : Ext wa wk := FR
  have hxk : Ext w wk := hxa.trans hxak
  have rk := Ext.refl wk
  clear k5 s5 q5 n5 k6 s6 k9 s9 q9 n9 sk k33 hx3 ka1 ka hxak hxa ra r3 s3 kc7 ho7 hoa ho2a n6
  (repeat' first
    | ((with_reducible refine wpd_at 5 ?_); refine wpd_hold ?_)
    | with_reducible first | exact ⟨⟩ | (refine gB ?_; intros) | refine gT ?_ ?_
    | refine gs ?_
    | refine sx ?_)
  unfold wpdH
  refine wpd_relS 11 [(9, 8)] (fun iI s v w9 => match iI with
    | 0 => HouV w9 v 2
    | 1 => TwoV w9 v
    | 2 => v = lateV b33 c7 av
    | 3 => ∃ t, v = .tuple #[t, .int .i64 3, .int .i64 7] ∧ TabV w9 t noT
    | 4 => ∃ t, v = .tuple #[t, .int .i64 3, .int .i64 7] ∧ TabV w9 t noT
    | 5 => TabV w9 v noT
    | 6 => v = .int .i64 3
    | 7 => v = .int .i64 7
    | 8 => ∃ b, v = .pointer (some ⟨b, 0, none⟩) ∧ wk.heap.size ≤ b ∧ (s = false → Blk w9 b 45 [.slice none 0 0, .int .i64 0]) ∧ (s = true → True)
    | 9 => True
    | 10 => v = .int .i64 3
    | _ => False) KR KR KR KR ?_ ?_ ?_
  · intro iI s v w1 w2 hR hx9
    match iI, hR with
    | 0, h => exact h.ext hx9
    | 1, h => exact h.ext hx9
    | 2, h => exact h
    | 3, h => exact (let ⟨t, e, o⟩ := h; ⟨t, e, o.ext hx9⟩)
    | 4, h => exact (let ⟨t, e, o⟩ := h; ⟨t, e, o.ext hx9⟩)
    | 5, h => exact h.ext hx9
    | 6, h => exact h
    | 7, h => exact h
    | 8, ⟨b, e, h1, h2, h3⟩ => exact ⟨b, e, h1, fun hs => (h2 hs).ext hx9, fun hs => (fun h => trivial) (h3 hs)⟩
    | 9, h => exact h
    | 10, h => exact h
  · intro iI oO hi ho gF w9 S9 hx9 hdep hag
    have s9 := hx9.st
    have n9 : Now w9 := trivial
    have r9 := Ext.refl w9
    have z9 := hx9.size
    rcases iI with _|_|_|_|_|_|_|_|_|_|_|iI
    have e := Option.some.inj ho
    subst e
    clear hag hdep ho
    refine ⟨fun _ => ?_, fun a9 pa da hal => by simp [alL] at hal⟩
    refine relStep_off rfl ?_
    rotate_left
    have e := Option.some.inj ho
    subst e
    clear hag hdep ho
    refine ⟨fun _ => ?_, fun a9 pa da hal => by simp [alL] at hal⟩
    refine relStep_off rfl ?_
    rotate_left
    have e := Option.some.inj ho
    subst e
    have a7 := hag.at 7 KR
    simp only [S5, ↓reduceIte, Nat.reduceEqDiff, initF, *] at a7
    clear hag hdep ho
    refine ⟨fun _ => ?_, fun a9 pa da hal => by simp [alL] at hal⟩
    refine relStep_off rfl ?_
    rotate_left
    have e := Option.some.inj ho
    subst e
    have d0 : HouV w9 (gF 37) 2 := hdep ⟨0, .data⟩ (by simp) rfl _ _ rfl rfl
    have d1 : TwoV w9 (gF 38) := hdep ⟨1, .data⟩ (by simp) rfl _ _ rfl rfl
    have d2 : (gF 39) = lateV b33 c7 av := hdep ⟨2, .data⟩ (by simp) rfl _ _ rfl rfl
    clear hag hdep ho
    refine ⟨fun _ => ?_, fun a9 pa da hal => by simp [alL] at hal⟩
    refine relStep_off rfl ?_
    rotate_left
    have e := Option.some.inj ho
    subst e
    have d3 : ∃ t, (gF 40) = .tuple #[t, .int .i64 3, .int .i64 7] ∧ TabV w9 t noT := hdep ⟨3, .data⟩ (by simp) rfl _ _ rfl rfl
    obtain ⟨t3, e3, o3⟩ := d3
    clear hag hdep ho
    refine ⟨fun _ => ?_, fun a9 pa da hal => by simp [alL] at hal⟩
    refine relStep_off rfl ?_
    rotate_left
    have e := Option.some.inj ho
    subst e
    have d4 : ∃ t, (gF 36) = .tuple #[t, .int .i64 3, .int .i64 7] ∧ TabV w9 t noT := hdep ⟨4, .data⟩ (by simp) rfl _ _ rfl rfl
    obtain ⟨t4, e4, o4⟩ := d4
    clear hag hdep ho
    refine ⟨fun _ => ?_, fun a9 pa da hal => by simp [alL] at hal⟩
    refine relStep_off rfl ?_
    rotate_left
    have e := Option.some.inj ho
    subst e
    have d4 : ∃ t, (gF 36) = .tuple #[t, .int .i64 3, .int .i64 7] ∧ TabV w9 t noT := hdep ⟨4, .data⟩ (by simp) rfl _ _ rfl rfl
    obtain ⟨t4, e4, o4⟩ := d4
    clear hag hdep ho
    refine ⟨fun _ => ?_, fun a9 pa da hal => by simp [alL] at hal⟩
    refine relStep_off rfl ?_
    rotate_left
    have e := Option.some.inj ho
    subst e
    have d4 : ∃ t, (gF 36) = .tuple #[t, .int .i64 3, .int .i64 7] ∧ TabV w9 t noT := hdep ⟨4, .data⟩ (by simp) rfl _ _ rfl rfl
    obtain ⟨t4, e4, o4⟩ := d4
    clear hag hdep ho
    refine ⟨fun _ => ?_, fun a9 pa da hal => by simp [alL] at hal⟩
    refine relStep_off rfl ?_
    rotate_left
    have e := Option.some.inj ho
    subst e
    clear hag hdep ho
    refine ⟨fun _ => ?_, fun a9 pa da hal => by simp [alL] at hal⟩
    refine relStep_off rfl ?_
    rotate_left
    have e := Option.some.inj ho
    subst e
    have d8 : ∃ b, (gF 8) = .pointer (some ⟨b, 0, none⟩) ∧ wk.heap.size ≤ b ∧ ((S9 8) = false → Blk w9 b 45 [.slice none 0 0, .int .i64 0]) ∧ ((S9 8) = true → True) := hdep ⟨8, .data⟩ (by simp) rfl _ _ rfl rfl
    obtain ⟨b8, e8, q8, hz8, _⟩ := d8
    have d5 : TabV w9 (gF 41) noT := hdep ⟨5, .data⟩ (by simp) rfl _ _ rfl rfl
    obtain ⟨tv5, B5, e5, o5⟩ := d5
    have h5one := o5.one
    clear hag hdep ho
    refine ⟨fun h => by simp [alL] at h, fun a9 pa da hal hS9 hpa hda => ?_⟩
    obtain rfl : 8 = a9 := by simpa [alL] using hal
    obtain rfl := Option.some.inj hpa
    obtain rfl := Option.some.inj hda
    have hz := hz8 hS9
    clear hal hpa hda hz8
    refine relStep_off rfl ?_
    rotate_left
    have e := Option.some.inj ho
    subst e
    have d6 : (gF 42) = .int .i64 3 := hdep ⟨6, .data⟩ (by simp) rfl _ _ rfl rfl
    clear hag hdep ho
    refine ⟨fun _ => ?_, fun a9 pa da hal => by simp [alL] at hal⟩
    refine relStep_off rfl ?_
    rotate_left
    · omega
    all_goals (repeat' first
    | with_reducible first | exact ⟨⟩ | (refine gB ?_; intros) | refine gT ?_ ?_
    | refine gs ?_
    | simp (maxDischargeDepth := 3) only [↓X, ↓Y, ↓Q, S1, ↓reduceIte, Nat.reduceEqDiff, Nat.reduceAdd, Int.reduceLT, Int.reduceLE, Int.reduceNeg, Int.reduceBEq, Int.reduceBNe, Int.reduceEq, Nat.reduceLeDiff, Nat.reduceMul, Nat.reduceLT, *, lateV]
    | simp (singlePass := true) (maxDischargeDepth := 99) only [*, S2, Nat.reduceLT, lateV])
    all_goals first
      | (refine CallsV.mono (law23house (n := 2) (by decide)) fun v w10 hh => hh)
      | (refine CallsV.mono law23two fun v w10 hh => hh)
      | (refine CallsV.mono (late_of d0 d1 (hL.out _ hx9) ex_late) fun v w10 hh => hh)
      | (exact ⟨t3, rfl, o3⟩)
      | (exact o4)
      | (rename_i b10 w10 n10 k10 s10 q10; exact ⟨_, rfl, FR, fun _ => k10.2.1 _ k10.2.2.1, fun h => absurd h (by decide)⟩)
      | (
          refine stT_agg (w0 := w9) (vs := [tv5, .int .i64 0]) hz rfl KR rfl (by simp [h5one, one_int]) fun w10 hb10 hc => ⟨b8, hc, q8, ⟨b8, (by first | exact e8 | rfl), q8, fun h => absurd h (by decide), fun _ => trivial⟩, ?_⟩
          intro iI s v hne hR
          match iI, hR with
          | 2, h | 6, h | 7, h | 9, h | 10, h => exact h
          | 0, h => exact h.fr hz hc
          | 1, h => exact h.fr hz hc
          | 3, h => exact (let ⟨t, e, o⟩ := h; ⟨t, e, o.fr hz hc⟩)
          | 4, h => exact (let ⟨t, e, o⟩ := h; ⟨t, e, o.fr hz hc⟩)
          | 5, h => exact h.fr hz hc
          | 8, _ => exact absurd rfl hne)
  · intro g9 w9 hx9 hR hag
    have s9 := hx9.st
    have n9 : Now w9 := trivial
    have r9 := Ext.refl w9
    have z9 := hx9.size
    have d7 : (g9 43) = .int .i64 7 := hR 7 _ _ (by decide) rfl rfl
    have d10 : (g9 9) = .int .i64 3 := hR 10 _ _ (by decide) rfl rfl
    have a1 := hag.at 1 KR
    have a2 := hag.at 2 KR
    have a3 := hag.at 3 KR
    have a4 := hag.at 4 KR
    have a5 := hag.at 5 KR
    have a6 := hag.at 6 KR
    simp only [S5, ↓reduceIte, Nat.reduceEqDiff, initF, *] at a1 a2 a3 a4 a5 a6
    clear hag hR
    simp only [List.drop_succ_cons, List.drop_zero]
    have hoc : Own w9 B1 3 1 tt1 ([0, 2, 0, 2].map intC) := hob.ext hx9
    have ho2c : Own w9 B2 3 1 tt2 ([0, 2, 4, 6].map intC) := ho2b.ext hx9
    have kc1 : Bk w9 b1 45 [tt1, .int .i64 4] := (show Blk w9 b1 _ _ from kb1.2.1 _ FR).bk
    have kc4 : Bk w9 b4 45 [tt2, .int .i64 8] := (show Blk w9 b4 _ _ from kb4.2.1 _ FR).bk
    have hxm : Ext w w9 := hxk.trans hx9
    clear hob ho2b kb1 kb4 hxk hL rk kk s9 r9 z9 hx9
    rename_i wm
    have rm := Ext.refl w9
    obtain ⟨wm, hwm⟩ : ∃ wm, wm = w9 := ⟨_, rfl⟩
    subst hwm
    have nm : Now wm := trivial
    (repeat' first
    | ((with_reducible refine wpd_at 6 ?_); refine wpd_hold ?_)
    | with_reducible first | exact ⟨⟩ | (refine gB ?_; intros) | refine gT ?_ ?_
    | refine gs ?_
    | refine sx ?_)
    unfold wpdH
    refine wpd_relS 10 [(9, 8)] (fun iI s v w9 => match iI with
      | 0 => HouV w9 v 2
      | 1 => TwoV w9 v
      | 2 => TrmV w9 v 4 1
      | 3 => v = .agg #[tt1, .int .i64 4]
      | 4 => v = .tuple #[.agg #[.int .u8 5, .int .i64 0, .int .i64 2], .int .i64 13]
      | 5 => v = .tuple #[.agg #[.int .u8 5, .int .i64 0, .int .i64 2], .int .i64 13]
      | 6 => v = .agg #[.int .u8 5, .int .i64 0, .int .i64 2]
      | 7 => v = .int .i64 13
      | 8 => ∃ b, v = .pointer (some ⟨b, 0, none⟩) ∧ wm.heap.size ≤ b ∧ (s = false → Blk w9 b 60 [.int .u8 0, .int .i64 0, .int .i64 0]) ∧ (s = true → Blk w9 b 60 [.int .u8 5, .int .i64 0, .int .i64 2])
      | 9 => True
      | _ => False) KR KR KR KR ?_ ?_ ?_
    · intro iI s v w1 w2 hR hx9
      match iI, hR with
      | 0, h => exact h.ext hx9
      | 1, h => exact h.ext hx9
      | 2, h => exact h.ext hx9
      | 3, h => exact h
      | 4, h => exact h
      | 5, h => exact h
      | 6, h => exact h
      | 7, h => exact h
      | 8, ⟨b, e, h1, h2, h3⟩ => exact ⟨b, e, h1, fun hs => (h2 hs).ext hx9, fun hs => (fun h => (h.ext hx9)) (h3 hs)⟩
      | 9, h => exact h
    · intro iI oO hi ho gF w9 S9 hx9 hdep hag
      have s9 := hx9.st
      have n9 : Now w9 := trivial
      have r9 := Ext.refl w9
      have z9 := hx9.size
      rcases iI with _|_|_|_|_|_|_|_|_|_|iI
      have e := Option.some.inj ho
      subst e
      clear hag hdep ho
      refine ⟨fun _ => ?_, fun a9 pa da hal => by simp [alL] at hal⟩
      refine relStep_off rfl ?_
      rotate_left
      have e := Option.some.inj ho
      subst e
      clear hag hdep ho
      refine ⟨fun _ => ?_, fun a9 pa da hal => by simp [alL] at hal⟩
      refine relStep_off rfl ?_
      rotate_left
      have e := Option.some.inj ho
      subst e
      clear hag hdep ho
      refine ⟨fun _ => ?_, fun a9 pa da hal => by simp [alL] at hal⟩
      refine relStep_off rfl ?_
      rotate_left
      have e := Option.some.inj ho
      subst e
      have a1 := hag.at 1 KR
      simp only [S5, ↓reduceIte, Nat.reduceEqDiff, initF, *] at a1
      clear hag hdep ho
      refine ⟨fun _ => ?_, fun a9 pa da hal => by simp [alL] at hal⟩
      refine relStep_off rfl ?_
      rotate_left
      have e := Option.some.inj ho
      subst e
      have d0 : HouV w9 (gF 45) 2 := hdep ⟨0, .data⟩ (by simp) rfl _ _ rfl rfl
      have d1 : TwoV w9 (gF 46) := hdep ⟨1, .data⟩ (by simp) rfl _ _ rfl rfl
      have d2 : TrmV w9 (gF 47) 4 1 := hdep ⟨2, .data⟩ (by simp) rfl _ _ rfl rfl
      have d3 : (gF 48) = .agg #[tt1, .int .i64 4] := hdep ⟨3, .data⟩ (by simp) rfl _ _ rfl rfl
      clear hag hdep ho
      refine ⟨fun _ => ?_, fun a9 pa da hal => by simp [alL] at hal⟩
      refine relStep_off rfl ?_
      rotate_left
      have e := Option.some.inj ho
      subst e
      have d4 : (gF 49) = .tuple #[.agg #[.int .u8 5, .int .i64 0, .int .i64 2], .int .i64 13] := hdep ⟨4, .data⟩ (by simp) rfl _ _ rfl rfl
      clear hag hdep ho
      refine ⟨fun _ => ?_, fun a9 pa da hal => by simp [alL] at hal⟩
      refine relStep_off rfl ?_
      rotate_left
      have e := Option.some.inj ho
      subst e
      have d5 : (gF 44) = .tuple #[.agg #[.int .u8 5, .int .i64 0, .int .i64 2], .int .i64 13] := hdep ⟨5, .data⟩ (by simp) rfl _ _ rfl rfl
      clear hag hdep ho
      refine ⟨fun _ => ?_, fun a9 pa da hal => by simp [alL] at hal⟩
      refine relStep_off rfl ?_
      rotate_left
      have e := Option.some.inj ho
      subst e
      have d5 : (gF 44) = .tuple #[.agg #[.int .u8 5, .int .i64 0, .int .i64 2], .int .i64 13] := hdep ⟨5, .data⟩ (by simp) rfl _ _ rfl rfl
      clear hag hdep ho
      refine ⟨fun _ => ?_, fun a9 pa da hal => by simp [alL] at hal⟩
      refine relStep_off rfl ?_
      rotate_left
      have e := Option.some.inj ho
      subst e
      clear hag hdep ho
      refine ⟨fun _ => ?_, fun a9 pa da hal => by simp [alL] at hal⟩
      refine relStep_off rfl ?_
      rotate_left
      have e := Option.some.inj ho
      subst e
      have d8 : ∃ b, (gF 11) = .pointer (some ⟨b, 0, none⟩) ∧ wm.heap.size ≤ b ∧ ((S9 8) = false → Blk w9 b 60 [.int .u8 0, .int .i64 0, .int .i64 0]) ∧ ((S9 8) = true → Blk w9 b 60 [.int .u8 5, .int .i64 0, .int .i64 2]) := hdep ⟨8, .data⟩ (by simp) rfl _ _ rfl rfl
      obtain ⟨b8, e8, q8, hz8, _⟩ := d8
      have d6 : (gF 50) = .agg #[.int .u8 5, .int .i64 0, .int .i64 2] := hdep ⟨6, .data⟩ (by simp) rfl _ _ rfl rfl
      clear hag hdep ho
      refine ⟨fun h => by simp [alL] at h, fun a9 pa da hal hS9 hpa hda => ?_⟩
      obtain rfl : 8 = a9 := by simpa [alL] using hal
      obtain rfl := Option.some.inj hpa
      obtain rfl := Option.some.inj hda
      have hz := hz8 hS9
      clear hal hpa hda hz8
      refine relStep_off rfl ?_
      rotate_left
      · omega
      all_goals (repeat' first
    | with_reducible first | exact ⟨⟩ | (refine gB ?_; intros) | refine gT ?_ ?_
    | refine gs ?_
    | simp (maxDischargeDepth := 3) only [↓X, ↓Y, ↓Q, S1, ↓reduceIte, Nat.reduceEqDiff, Nat.reduceAdd, Int.reduceLT, Int.reduceLE, Int.reduceNeg, Int.reduceBEq, Int.reduceBNe, Int.reduceEq, Nat.reduceLeDiff, Nat.reduceMul, Nat.reduceLT, *, lateV]
    | simp (singlePass := true) (maxDischargeDepth := 99) only [*, S2, Nat.reduceLT, lateV])
      all_goals first
        | (refine CallsV.mono (law23house (n := 2) (by decide)) fun v w10 hh => hh)
        | (refine CallsV.mono law23two fun v w10 hh => hh)
        | (refine CallsV.mono (law23terms (n := 4) (blast := 1) (by decide)) fun v w10 hh => hh)
        | (refine CallsV.mono (check_of d0 d1 d2 (hoc.ext hx9) ex_check) fun v w10 hh => ⟨hh.2, hh.1⟩)
        | (rename_i b10 w10 n10 k10 s10 q10; exact ⟨_, rfl, FR, fun _ => k10.2.1 _ k10.2.2.1, fun h => absurd h (by decide)⟩)
        | (
            refine stT_agg (w0 := w9) (vs := [.int .u8 5, .int .i64 0, .int .i64 2]) hz rfl KR rfl (by simp [one_int, Value.oneCell']) fun w10 hb10 hc => ⟨b8, hc, q8, ⟨b8, (by first | exact e8 | rfl), q8, fun h => absurd h (by decide), fun _ => hb10⟩, ?_⟩
            intro iI s v hne hR
            match iI, hR with
            | 3, h | 5, h | 6, h | 7, h | 9, h => exact h
            | 0, h => exact h.fr hz hc
            | 1, h => exact h.fr hz hc
            | 2, h => exact h.fr hz hc
            | 4, h => exact h
            | 8, _ => exact absurd rfl hne)
    · intro g9 w9 hx9 hR hag
      have s9 := hx9.st
      have n9 : Now w9 := trivial
      have r9 := Ext.refl w9
      have z9 := hx9.size
      have d7 : (g9 51) = .int .i64 13 := hR 7 _ _ (by decide) rfl rfl
      have d8 : ∃ b, (g9 11) = .pointer (some ⟨b, 0, none⟩) ∧ wm.heap.size ≤ b ∧ (true = false → Blk w9 b 60 [.int .u8 0, .int .i64 0, .int .i64 0]) ∧ (true = true → Blk w9 b 60 [.int .u8 5, .int .i64 0, .int .i64 2]) := hR 8 _ _ (by decide) rfl rfl
      obtain ⟨b8, e8, q8, _, f8⟩ := d8
      replace f8 := f8 rfl
      have nw8 := Nw.of q8
      have K11 := f8.bk
      have a1 := hag.at 1 KR
      have a2 := hag.at 2 KR
      have a3 := hag.at 3 KR
      have a4 := hag.at 4 KR
      have a5 := hag.at 5 KR
      have a6 := hag.at 6 KR
      have a9 := hag.at 9 KR
      have a10 := hag.at 10 KR
      simp only [S5, ↓reduceIte, Nat.reduceEqDiff, initF, *] at a1 a2 a3 a4 a5 a6 a9 a10
      clear hag hR
      simp only [List.drop_succ_cons, List.drop_zero]
      have hoe : Own w9 B1 3 1 tt1 ([0, 2, 0, 2].map intC) := hoc.ext hx9
      have ho2e : Own w9 B2 3 1 tt2 ([0, 2, 4, 6].map intC) := ho2c.ext hx9
      have ke1 : Bk w9 b1 45 [tt1, .int .i64 4] := (show Blk w9 b1 _ _ from kc1.2.1 _ FR).bk
      have ke4 : Bk w9 b4 45 [tt2, .int .i64 8] := (show Blk w9 b4 _ _ from kc4.2.1 _ FR).bk
      have hxn : Ext w w9 := hxm.trans hx9
      clear hoc ho2c kc1 kc4 hxm s9 r9 z9 hx9 q8 nw8 f8 rm nm
      obtain ⟨wn, hwn⟩ : ∃ wn, wn = w9 := ⟨_, rfl⟩
      subst hwn
      have rn := Ext.refl wn
      have nn : Now wn := trivial
      (repeat' first
    | ((with_reducible refine wpd_at 7 ?_); refine wpd_hold ?_)
    | with_reducible first | exact ⟨⟩ | (refine gB ?_; intros) | refine gT ?_ ?_
    | refine gs ?_
    | refine sx ?_)
      unfold wpdH
      refine wpd_rel 8 (fun iI v w9 => match iI with
        | 0 => TwoV w9 v
        | 1 => TrmV w9 v 4 0
        | 2 => v = .agg #[tt1, .int .i64 4]
        | 3 => v = .tuple #[.int .i64 5, .int .i64 15]
        | 4 => v = .tuple #[.int .i64 5, .int .i64 15]
        | 5 => v = .int .i64 5
        | 6 => v = .int .i64 15
        | 7 => v = .int .i64 5
        | _ => False) KR KR KR ?_ ?_ ?_
      · intro iI v w1 w2 hR hx9
        match iI, hR with
        | 0, h => exact h.ext hx9
        | 1, h => exact h.ext hx9
        | 2, h => exact h
        | 3, h => exact h
        | 4, h => exact h
        | 5, h => exact h
        | 6, h => exact h
        | 7, h => exact h
      · intro iI oO hi ho gF w9 hx9 hdep hag
        have s9 := hx9.st
        have n9 : Now w9 := trivial
        have r9 := Ext.refl w9
        have z9 := hx9.size
        rcases iI with _|_|_|_|_|_|_|_|iI
        · have e := Option.some.inj ho
          subst e
          clear hag hdep ho
          refine relStep_off rfl ?_
          (repeat' first
    | with_reducible first | exact ⟨⟩ | (refine gB ?_; intros) | refine gT ?_ ?_
    | refine gs ?_
    | refine sx ?_)
          refine CallsV.mono law23two fun v w10 hh => hh
        · have e := Option.some.inj ho
          subst e
          clear hag hdep ho
          refine relStep_off rfl ?_
          (repeat' first
    | with_reducible first | exact ⟨⟩ | (refine gB ?_; intros) | refine gT ?_ ?_
    | refine gs ?_
    | refine sx ?_)
          refine CallsV.mono (law23terms (n := 4) (blast := 0) (by decide)) fun v w10 hh => hh
        · have e := Option.some.inj ho
          subst e
          have a1 := hag.at 1 KR
          simp only [S5, ↓reduceIte, Nat.reduceEqDiff, initF, *] at a1
          clear hag hdep ho
          refine relStep_off rfl ?_
          (repeat' first
    | with_reducible first | exact ⟨⟩ | (refine gB ?_; intros) | refine gT ?_ ?_
    | refine gs ?_
    | refine sx ?_)
        · have e := Option.some.inj ho
          subst e
          have d0 : TwoV w9 (gF 53) := hdep ⟨0, .data⟩ (by simp) rfl _ _ rfl rfl
          have d1 : TrmV w9 (gF 54) 4 0 := hdep ⟨1, .data⟩ (by simp) rfl _ _ rfl rfl
          have d2 : (gF 55) = .agg #[tt1, .int .i64 4] := hdep ⟨2, .data⟩ (by simp) rfl _ _ rfl rfl
          clear hag hdep ho
          refine relStep_off rfl ?_
          (repeat' first
    | with_reducible first | exact ⟨⟩ | (refine gB ?_; intros) | refine gT ?_ ?_
    | refine gs ?_
    | refine sx ?_)
          refine CallsV.mono (at_of d0 d1 (hoe.ext hx9) ex_at) fun v w10 hh => ⟨hh.2, hh.1⟩
        · have e := Option.some.inj ho
          subst e
          have d3 : (gF 56) = .tuple #[.int .i64 5, .int .i64 15] := hdep ⟨3, .data⟩ (by simp) rfl _ _ rfl rfl
          clear hag hdep ho
          refine relStep_off rfl ?_
          (repeat' first
    | with_reducible first | exact ⟨⟩ | (refine gB ?_; intros) | refine gT ?_ ?_
    | refine gs ?_
    | refine sx ?_)
        · have e := Option.some.inj ho
          subst e
          have d4 : (gF 52) = .tuple #[.int .i64 5, .int .i64 15] := hdep ⟨4, .data⟩ (by simp) rfl _ _ rfl rfl
          clear hag hdep ho
          refine relStep_off rfl ?_
          (repeat' first
    | with_reducible first | exact ⟨⟩ | (refine gB ?_; intros) | refine gT ?_ ?_
    | refine gs ?_
    | refine sx ?_)
        · have e := Option.some.inj ho
          subst e
          have d4 : (gF 52) = .tuple #[.int .i64 5, .int .i64 15] := hdep ⟨4, .data⟩ (by simp) rfl _ _ rfl rfl
          clear hag hdep ho
          refine relStep_off rfl ?_
          (repeat' first
    | with_reducible first | exact ⟨⟩ | (refine gB ?_; intros) | refine gT ?_ ?_
    | refine gs ?_
    | refine sx ?_)
        · have e := Option.some.inj ho
          subst e
          have d5 : (gF 57) = .int .i64 5 := hdep ⟨5, .data⟩ (by simp) rfl _ _ rfl rfl
          clear hag hdep ho
          refine relStep_off rfl ?_
          (repeat' first
    | with_reducible first | exact ⟨⟩ | (refine gB ?_; intros) | refine gT ?_ ?_
    | refine gs ?_
    | refine sx ?_)
        · omega
      · intro g9 w9 hx9 hR hag
        have s9 := hx9.st
        have n9 : Now w9 := trivial
        have r9 := Ext.refl w9
        have z9 := hx9.size
        have d6 : (g9 58) = .int .i64 15 := hR 6 _ _ (by decide) rfl rfl
        have d7 : (g9 13) = .int .i64 5 := hR 7 _ _ (by decide) rfl rfl
        have a1 := hag.at 1 KR
        have a2 := hag.at 2 KR
        have a3 := hag.at 3 KR
        have a4 := hag.at 4 KR
        have a5 := hag.at 5 KR
        have a6 := hag.at 6 KR
        have a9 := hag.at 9 KR
        have a10 := hag.at 10 KR
        have a11 := hag.at 11 KR
        have a12 := hag.at 12 KR
        simp only [S5, ↓reduceIte, Nat.reduceEqDiff, initF, *] at a1 a2 a3 a4 a5 a6 a9 a10 a11 a12
        clear hag hR
        simp only [List.drop_succ_cons, List.drop_zero]
        have hof : Own w9 B1 3 1 tt1 ([0, 2, 0, 2].map intC) := hoe.ext hx9
        have ho2f : Own w9 B2 3 1 tt2 ([0, 2, 4, 6].map intC) := ho2e.ext hx9
        have kf1 : Bk w9 b1 45 [tt1, .int .i64 4] := (show Blk w9 b1 _ _ from ke1.2.1 _ FR).bk
        have kf4 : Bk w9 b4 45 [tt2, .int .i64 8] := (show Blk w9 b4 _ _ from ke4.2.1 _ FR).bk
        have kf8 : Bk w9 b8 60 [.int .u8 5, .int .i64 0, .int .i64 2] := (show Blk w9 b8 _ _ from K11.2.1 _ FR).bk
        have hxf : Ext w w9 := hxn.trans hx9
        clear hoe ho2e ke1 ke4 hxn s9 z9 hx9 K11 rn nn
        (repeat' first
    | with_reducible first | exact ⟨⟩ | (refine gB ?_; intros) | refine gT ?_ ?_
    | refine gs ?_
    | refine sx ?_)
        rename_i b67 wp np kp sp qp yp
        clear yp
        have hog : Own wp B1 3 1 tt1 ([0, 2, 0, 2].map intC) := hof.ext FR
        have kpb : Blk wp b67 3 ([0, 2, 0, 2].map intV) := kp.2.1 _ kp.2.2.1
        refine ret_k (same_of hog kpb rfl (by decide) KR) fun wq nq sq => ?_
        (repeat' first
    | with_reducible first | exact ⟨⟩ | (refine gB ?_; intros) | refine gT ?_ ?_
    | refine gs ?_
    | refine sx ?_)
        rename_i b81 wr nr kr sr qr yr
        clear yr
        have xr9 : Ext w9 wr := FR
        have hor : Own wr B2 3 1 tt2 ([0, 2, 4, 6].map intC) := ho2f.ext xr9
        have krb : Blk wr b81 3 ([0, 2, 4, 6].map intV) := kr.2.1 _ kr.2.2.1
        refine ret_k (same_of hor krb rfl (by decide) KR) fun ws ns ss => ?_
        (repeat' first
    | with_reducible first | exact ⟨⟩ | (refine gB ?_; intros) | refine gT ?_ ?_
    | refine gs ?_
    | refine sx ?_)
end
end Go.Proofs.YtopfddchckdhgaaGreat
