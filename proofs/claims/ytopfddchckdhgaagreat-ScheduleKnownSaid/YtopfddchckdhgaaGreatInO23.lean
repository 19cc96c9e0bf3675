
/- The layer schedule: inOrder. -/
import Derived.Test.YtopfddchckdhgaaGreatFrL23
import Derived.Test.YtopfddchckdhgaaGreatRep23
namespace Go.Proofs.YtopfddchckdhgaaGreat
set_option linter.unusedSimpArgs false
set_option linter.unusedVariables false
open Go Go.RowKit
set_option maxRecDepth 100000
set_option linter.unusedSectionVars false
set_option maxHeartbeats 4000000
theorem placesAll_iff {n : Nat} : ∀ {l : List (List Int)} {i : Nat}, placesAll n i l = true ↔ ∀ k (hk : k < l.length), placesB n ((i + k : Nat) : Int) l[k] = true
  | [], i => ⟨fun _ k hk => absurd hk (by simp), fun _ => rfl⟩
  | a :: r, i => by
    rw [placesAll, Bool.and_eq_true, placesAll_iff (l := r)]
    constructor
    · rintro ⟨h1, h2⟩ k hk
      cases k with
      | zero => exact h1
      | succ k =>
        have := h2 k (by simpa using hk)
        rw [show i + 1 + k = i + (k + 1) by omega] at this
        exact this
    · intro h
      refine ⟨h 0 (by simp), fun k hk => ?_⟩
      have := h (k + 1) (by simpa using hk)
      rw [show i + (k + 1) = i + 1 + k by omega] at this
      exact this
def lensW (after : List (List Int)) (n k : Nat) : List Int := (List.range n).map fun i => if i < k then (((after[i]?).getD []).length : Int) else 0
def decW (after : List (List Int)) (D : List Nat) (j k : Nat) : List Int := (List.range after.length).map fun i => if i = j then -1 else if i < k ∧ j ∈ aftN after i then waitS after D i - 1 else waitS after D i
theorem map_get {α β : Type} {g : α → β} {l : List α} {k : Nat} (h : k < l.length) : (l.map g)[k]? = some (g l[k]) := by rw [List.getElem?_map, List.getElem?_eq_getElem h]; rfl
theorem range_ext {β : Type} {n : Nat} {f g : Nat → β} (h : ∀ i, i < n → f i = g i) : (List.range n).map f = (List.range n).map g := List.map_congr_left fun i hi => h i (List.mem_range.1 hi)
theorem range_set {β : Type} {n k : Nat} {f g : Nat → β} {v : β} (hk : k < n) (h : ∀ i, i < n → g i = if i = k then v else f i) : ((List.range n).map f).set k v = (List.range n).map g := by
  apply List.ext_getElem
  · simp
  · intro i h1 h2
    have hi : i < n := by simpa using h2
    rw [List.getElem_set]
    simp only [List.getElem_map, List.getElem_range]
    rw [h i hi]
    by_cases e : k = i
    · rw [if_pos e, if_pos e.symm]
    · rw [if_neg e, if_neg fun x => e x.symm]
theorem lens_next {after : List (List Int)} {n k : Nat} (hk : k < n) : (lensW after n k).set k (((after[k]?).getD []).length : Int) = lensW after n (k + 1) := range_set hk fun i _ => by
  by_cases e : i = k
  · subst e; rw [if_pos (by omega), if_pos rfl]
  · rw [if_neg e]
    by_cases h : i < k
    · rw [if_pos (by omega), if_pos h]
    · rw [if_neg (by omega), if_neg h]
theorem lens_zero {after : List (List Int)} {n : Nat} : lensW after n 0 = List.replicate n 0 := by
  unfold lensW
  apply List.ext_getElem
  · simp
  · intro i h1 h2; simp
theorem lens_wait {after : List (List Int)} : lensW after after.length after.length = waitL after [] := range_ext fun i hi => by
  rw [if_pos hi]
  unfold waitS aftN
  rw [if_neg (by simp)]
  have : ((after[i]?).getD [] |>.map Int.toNat).countP (fun j => !List.contains [] j) = ((after[i]?).getD []).length := by
    rw [List.countP_eq_length.2 (by simp), List.length_map]
  rw [this]
theorem dec_zero {after : List (List Int)} {D : List Nat} {j : Nat} (hj : j < after.length) : (waitL after D).set j (-1) = decW after D j 0 := range_set hj fun i _ => by
  by_cases e : i = j
  · rw [if_pos e, if_pos e]
  · rw [if_neg e, if_neg e, if_neg (by omega)]
theorem dec_next {after : List (List Int)} {D : List Nat} {j k : Nat} (hk : k < after.length) (hne : ¬ k = j) (hc : j ∈ aftN after k) : (decW after D j k).set k (waitS after D k - 1) = decW after D j (k + 1) := range_set hk fun i _ => by
  by_cases e : i = k
  · subst e; rw [if_neg hne, if_pos ⟨by omega, hc⟩, if_pos rfl]
  · rw [if_neg e]
    by_cases ej : i = j
    · rw [if_pos ej, if_pos ej]
    · rw [if_neg ej, if_neg ej]
      by_cases h : i < k ∧ j ∈ aftN after i
      · rw [if_pos h, if_pos ⟨by omega, h.2⟩]
      · rw [if_neg h, if_neg fun h2 => h ⟨by omega, h2.2⟩]
theorem dec_skip {after : List (List Int)} {D : List Nat} {j k : Nat} (hc : ¬ j ∈ aftN after k) : decW after D j k = decW after D j (k + 1) := range_ext fun i _ => by
  by_cases ej : i = j
  · rw [if_pos ej, if_pos ej]
  · rw [if_neg ej, if_neg ej]
    by_cases h : i < k ∧ j ∈ aftN after i
    · rw [if_pos h, if_pos ⟨by omega, h.2⟩]
    · rw [if_neg h, if_neg fun h2 => ?_]
      have : ¬ i = k := fun e => hc (e ▸ h2.2)
      exact h ⟨by omega, h2.2⟩
/-- Rows of places. -/
structure PlO (after : List (List Int)) : Prop where
  rng : ∀ i, i < after.length → ∀ a ∈ (after[i]?).getD [], 0 ≤ a ∧ a < after.length ∧ ¬ a = i
  nd : ∀ i, i < after.length → (aftN after i).Nodup
theorem PlO.lt {after : List (List Int)} (h : PlO after) : ∀ i, i < after.length → ∀ j ∈ aftN after i, j < after.length := fun i hi j hj => by
  obtain ⟨a, ha, rfl⟩ := List.mem_map.1 hj
  have := h.rng i hi a ha
  omega
theorem PlO.mem {after : List (List Int)} (h : PlO after) {i j : Nat} (hi : i < after.length) : ((after[i]?).getD []).contains (j : Int) = decide (j ∈ aftN after i) := by
  rw [Bool.eq_iff_iff, List.contains_iff_mem, decide_eq_true_eq]
  constructor
  · intro hj
    exact List.mem_map.2 ⟨_, hj, by simp⟩
  · intro hj
    obtain ⟨a, ha, e⟩ := List.mem_map.1 hj
    have := h.rng i hi a ha
    have : a = (j : Int) := by omega
    exact this ▸ ha
theorem PlO.self {after : List (List Int)} (h : PlO after) {j : Nat} (hj : j < after.length) : ¬ j ∈ aftN after j := fun hm => by
  obtain ⟨a, ha, e⟩ := List.mem_map.1 hm
  have := h.rng j hj a ha
  omega
theorem dec_full {after : List (List Int)} {D : List Nat} {j : Nat} (h : PlO after) (hK : Kn after D) (hj : j < after.length) (hd : j ∉ D) : decW after D j after.length = waitL after (j :: D) := range_ext fun i hi => by
  rw [wait_add hd (h.nd i hi) (h.self hj) fun hiD hm => hd (hK.cl i hiD j hm)]
  by_cases ej : i = j
  · rw [if_pos ej, if_pos ej]
  · rw [if_neg ej, if_neg ej]
    by_cases hm : j ∈ aftN after i
    · rw [if_pos ⟨hi, hm⟩, if_pos hm]
    · rw [if_neg fun h2 => hm h2.2, if_neg hm]
theorem places_plo {after : List (List Int)} (h : placesAll after.length 0 after = true) : PlO after := by
  have hp := placesAll_iff.1 h
  refine ⟨fun i hi a ha => ?_, fun i hi => ?_⟩
  · have := hp i hi
    rw [Nat.zero_add] at this
    simp only [hi, List.getElem?_eq_getElem, Option.getD_some] at ha
    have := ascB_mem this a ha
    omega
  · have := hp i hi
    rw [Nat.zero_add] at this
    unfold aftN
    simp only [hi, List.getElem?_eq_getElem, Option.getD_some]
    exact asc_nd (by omega) this
/-- What the end of the search says. -/
theorem order_end {p : PlanD} {D : List Nat} (hn : p.steps.length ≤ 12) (hl : p.after.length = p.steps.length) (hp : placesAll p.after.length 0 p.after = true) (hK : Kn p.after D) (hw : ∀ i, i < p.after.length → ¬ waitS p.after D i = 0) : decide (D.length = p.after.length) = ordB p := by
  have hO := places_plo hp
  unfold ordB
  rw [← hl, hp, decide_eq_true (by omega : p.after.length ≤ 12), decide_eq_true rfl, Bool.and_true, Bool.true_and, Bool.true_and, Bool.eq_iff_iff, decide_eq_true_eq, rounds_iff hO.lt]
  exact hK.full hO.lt hw
theorem fidx_pos {l : List Int} {v : Int} (h : 0 ≤ fidx (fun y => v == y) l) : ∃ j : Nat, fidx (fun y => v == y) l = (j : Int) ∧ ∃ hj : j < l.length, l[j] = v := by
  unfold fidx at h ⊢
  cases hf : l.findIdx? (fun y => v == y) with
  | none => rw [hf] at h; simp at h
  | some i =>
    rw [List.findIdx?_eq_some_iff_getElem] at hf
    obtain ⟨h1, h2, _⟩ := hf
    exact ⟨i, rfl, h1, by simpa using (show v = l[i] by simpa using h2).symm⟩
theorem fidx_neg {l : List Int} {v : Int} (h : ¬ 0 ≤ fidx (fun y => v == y) l) : ∀ a ∈ l, ¬ a = v := fun a ha e => by
  unfold fidx at h
  cases hf : l.findIdx? (fun y => v == y) with
  | none =>
    rw [List.findIdx?_eq_none_iff] at hf
    have := hf a ha
    simp [e] at this
  | some i => rw [hf] at h; exact h (Int.natCast_nonneg _)
def InI (w w' : World) (bw : Nat) (after : List (List Int)) (D : List Nat) : Prop := Cg bw w w' ∧ Blk w' bw 3 ((waitL after D).map intV) ∧ Kn after D
theorem wait_rng {after : List (List Int)} {D : List Nat} {k : Nat} (hk : k < after.length) : -1 ≤ waitS after D k ∧ waitS after D k ≤ after[k].length := by
  unfold waitS
  split
  · omega
  · have h1 : (aftN after k).countP (fun j => !D.contains j) ≤ (aftN after k).length := List.countP_le_length
    have h2 : (aftN after k).length = after[k].length := by simp [aftN, hk]
    omega
theorem dec_get {after : List (List Int)} {D : List Nat} {j k : Nat} (hk : k < after.length) : ((decW after D j k).map intV)[k]? = some (intV (if k = j then -1 else waitS after D k)) := by
  rw [map_get (by simpa [decW] using hk)]
  simp [decW]
/-- A loop by a ghost that falls. -/
def nextY (I : Nat → Fr → World → Prop) (m : Nat) (g : Fr) (w : World) : Prop := ∃ m', m' < m ∧ I m' g w
theorem next_y {I : Nat → Fr → World → Prop} {m m' : Nat} {g : Fr} {w : World} (h : m' < m) (hI : I m' g w) : nextY I m g w := ⟨m', h, hI⟩
theorem loop_y {P : Program} {n : Nat} {c : Code} {q : Exit → Fr → World → Prop} {g : Fr} {w : World} (N : Nat) (I : Fr → Nat → Fr → World → Prop) (hd : dstsOk n c = true) (h0 : I g N g w) (step : ∀ m g' w', Now w' → I g m g' w' → wpx P n c (thenX (nextY (I g) m) q) g' w') : loopX P n c q g w := loopX_intro (I g) N hd h0 fun m g' w' h => step m g' w' trivial h
section
variable {w w' : World} {B : Nat} {sv av : Value} {vs : List Value} {p : PlanD}
theorem nat_div_le {n : Nat} (h : n ≤ 12) : n ≤ 1000000 := by omega
theorem row_slI {w : World} {bw n : Nat} {W : List Int} (hb : Blk w bw 3 (W.map intV)) (hn : W.length = n) (h12 : n ≤ 12) : Sl w w.heap.size none 1 (.slice (some ⟨bw, 0, none⟩) n n) (W.map intV) := row_sl hb (by rw [List.length_map]; exact hn.symm) (by rw [List.length_map]; omega)
theorem schedInOrder (hB : B ≤ w.heap.size) (hp : PlanT w B sv av vs p) : Ret Tryz.prog 40 #[.agg #[sv, av]] w (.bool (ordB p)) := by
  have hn : Now w := trivial
  have hx : Ext w w := Ext.refl w
  have hbw : Bl B w w := Bl.refl hB
  have hsW : SlWf sv ∧ isSl sv ∧ lenN sv = p.steps.length ∧ sv.oneCell' = true ∧ cellsL sv = [sv] := ⟨hp.s.wf, hp.s.sl, by simpa using hp.s.len, hp.s.one, cellsL_one hp.s.one⟩
  have haW : SlWf av ∧ isSl av ∧ lenN av = p.after.length ∧ av.oneCell' = true ∧ cellsL av = [av] := ⟨hp.a.v.wf, hp.a.v.sl, by rw [hp.a.v.len, hp.a.len], hp.a.v.one, cellsL_one hp.a.v.one⟩
  have hmaxa : p.after.length ≤ 9223372036854775807 := by rw [← hp.a.len]; exact hp.a.v.maxLen
  have hrow : Hid (∀ i (hi : i < p.after.length), ∃ u, (∀ w', Bl B w w' → rdv none w' (elemAt av 1 i) = some u) ∧ SlK w B 1 none u p.after[i] intV ∧ Sl w B none 1 u (p.after[i].map intV)) := fun i hi => by
    obtain ⟨u, h1, h2⟩ := hp.a.at_ i hi
    have hlt : i < vs.length := by rw [hp.a.len]; exact hi
    refine ⟨u, fun w' hb => ?_, h2.k hB, h2⟩
    rw [(hp.a.v.bl hb).rd i hlt]
    rw [List.getElem?_eq_getElem hlt] at h1
    exact h1
  by_cases h1 : p.steps.length ≤ 12
  rotate_left
  · have e : ordB p = false := by unfold ordB; simp [h1]
    rw [e]
    have h1' : (12 : Int) < p.steps.length := by omega
    clear hrow
    (refine callsV_of Tryz.func40 rfl KR KR ?_; rw [Tryz.results40])
    (repeat' first
    | with_reducible first | exact ⟨⟩ | (refine gB ?_; intros) | refine gT ?_ ?_
    | refine gs ?_
    | refine sx ?_)
  by_cases h2 : p.after.length = p.steps.length
  rotate_left
  · have e : ordB p = false := by unfold ordB; simp [h2]
    rw [e]
    have h1' : ¬ (12 : Int) < p.steps.length := by omega
    have h2' : ((p.after.length : Int) == (p.steps.length : Int)) = false := by simpa using fun h => h2 (by omega)
    have h2'' : ¬ (p.after.length : Int) = (p.steps.length : Int) := by omega
    clear hrow h2
    (refine callsV_of Tryz.func40 rfl KR KR ?_; rw [Tryz.results40])
    (repeat' first
    | with_reducible first | exact ⟨⟩ | (refine gB ?_; intros) | refine gT ?_ ?_
    | refine gs ?_
    | refine sx ?_)
  have h12 : p.after.length ≤ 12 := by omega
  have h1' : ¬ (12 : Int) < (p.after.length : Int) := by omega
  have hfal : Hid (∀ k (hk : k < p.after.length), placesB p.after.length k p.after[k] = false → ordB p = false) := fun k hk hf => by
    have : placesAll p.steps.length 0 p.after = false := by
      cases hq : placesAll p.steps.length 0 p.after
      · rfl
      · have := placesAll_iff.1 hq k hk
        rw [Nat.zero_add, ← h2, hf] at this
        cases this
    unfold ordB
    rw [this]; simp
  have hend : Hid (∀ D, placesAll p.after.length 0 p.after = true → Kn p.after D → (∀ i, i < p.after.length → ¬ waitS p.after D i = 0) → decide (D.length = p.after.length) = ordB p) := fun D h3 h4 h5 => order_end h1 h2 h3 h4 h5
  rw [← h2] at hsW
  obtain ⟨R, hR⟩ : ∃ R, R = ordB p := ⟨_, rfl⟩
  rw [← hR] at hfal hend ⊢
  obtain ⟨steps, after⟩ := p
  simp only at *
  clear hp h1 h2 hR
  (refine callsV_of Tryz.func40 rfl KR KR ?_; rw [Tryz.results40])
  (repeat' first
    | with_reducible first | exact ⟨⟩ | (refine gB ?_; intros) | refine gT ?_ ?_
    | refine gs ?_
    | refine sx ?_)
  refine mk_one_k (n := after.length) (z := .int .i64 0) rfl (by decide) (nat_div_le h12) fun bw w1 n1 k1 s1 q1 => ?_
  rename_i b1 w0 n0 k0 s0 q0
  have hwb : w.heap.size ≤ bw := FR
  have hBb : B ≤ bw := Nat.le_trans hB hwb
  have hbl1 : bw < w1.heap.size := k1.2.2.2.1
  have hx1 : Ext w w1 := FR
  have K1 : Hid (Blk w1 bw 3 ((lensW after after.length 0).map intV)) := by
    rw [lens_zero, List.map_replicate]
    exact k1.2.1 _ k1.2.2.1
  have hb1w : ¬ b1 = bw := (q1.1 b1 k0.2.2.2.1).1
  have hbB1 : Bl B w w1 := FR
  have hk01 : Blk w1 b1 33 [sv, av] := k0.2.1 _ FR
  have ck01 := hk01.bk
  have r1 := Ext.refl w1
  have c1 : Cg bw w1 w1 := Chg.refl' w1 bw
  have hlw : ∀ k, (lensW after after.length k).length = after.length := fun k => by simp [lensW]
  clear k0 s0 q0 n0 k1 s1 q1 hk01
  (repeat' first
    | with_reducible first | exact ⟨⟩ | (refine gB ?_; intros) | refine gT ?_ ?_
    | refine gs ?_
    | refine sx ?_)
  refine loop_b bw after.length (fun g0 k g w' => g 31 = .int .i64 (k : Int) ∧ (g 1 = g0 1 ∧ g 3 = g0 3 ∧ g 4 = g0 4 ∧ g 29 = g0 29 ∧ g 30 = g0 30) ∧ Hid (Blk w' bw 3 ((lensW after after.length k).map intV) ∧ ∀ i (hi : i < after.length), i < k → placesB after.length i after[i] = true)) KR hmaxa hbl1 ?_ ?_ ?_
  · (repeat' first
    | with_reducible first | exact ⟨⟩ | (refine gB ?_; intros) | refine gT ?_ ?_
    | refine gs ?_
    | refine sx ?_)
    all_goals exact ⟨K1.out, fun i _ h => absurd h (by omega)⟩
  · rintro k m g wk hk' hlt nk sk ck hbk hw ⟨hi, hf, hq⟩
    simp (maxDischargeDepth := 3) only [U, ↓reduceIte, Nat.reduceEqDiff, *] at hf
    obtain ⟨Kk, hpk⟩ := hq.out
    obtain ⟨u, hu, hU, hSl⟩ := hrow.out k hlt
    have kk := Kk.bk
    have hxk : Ext w wk := FR
    have hBk : Bl B w wk := FR
    have hmaxu := hSl.max_
    have hpk' : Hid (∀ i (hi : i < after.length), i < k → placesB after.length i after[i] = true) := hpk
    have hfk : Hid _ := hfal.out k hlt
    have hkn : (k : Int) < (after.length : Int) := by omega
    have hgetk : k < (lensW after after.length k).length := by rw [hlw]; exact hlt
    have hlnx : Hid ((lensW after after.length k).set k (after[k].length : Int) = lensW after after.length (k + 1)) := by
      have := lens_next (after := after) (n := after.length) hlt
      simp only [hlt, List.getElem?_eq_getElem, Option.getD_some] at this
      exact this
    have hlm : k < ((lensW after after.length k).map intV).length := by rw [List.length_map]; exact hgetk
    clear hq hpk hSl
    (repeat' first
    | with_reducible first | exact ⟨⟩ | (refine gB ?_; intros) | refine gT ?_ ?_
    | refine gs ?_
    | refine sx ?_)
    refine loop_k (after[k].length) (fun g0 j g _ => g 38 = .int .i64 j ∧ (g 1 = g0 1 ∧ g 3 = g0 3 ∧ g 4 = g0 4 ∧ g 5 = g0 5 ∧ g 6 = g0 6 ∧ g 29 = g0 29 ∧ g 30 = g0 30 ∧ g 31 = g0 31 ∧ g 36 = g0 36 ∧ g 37 = g0 37) ∧ ∃ last : Int, g 7 = .int .i64 last ∧ Hid (placesB after.length k after[k] = ascB after.length k last (after[k].drop j))) KR hmaxu ?_ ?_ ?_
    · (repeat' first
    | with_reducible first | exact ⟨⟩ | (refine gB ?_; intros) | refine gT ?_ ?_
    | refine gs ?_
    | refine sx ?_)
      all_goals exact ⟨-1, rfl, rfl⟩
    · rintro j m2 g2 wj hj2 hjlt nj sj bj hwj ⟨hi2, hf2, last, hl7, hpl⟩
      simp (maxDischargeDepth := 3) only [U, ↓reduceIte, Nat.reduceEqDiff, *] at hf2
      have hdr := hpl.out
      rw [List.drop_eq_getElem_cons hjlt, ascB] at hdr
      by_cases hok : last < after[k][j] ∧ after[k][j] < (after.length : Int) ∧ ¬ after[k][j] = (k : Int)
      · obtain ⟨o1, o2, o3⟩ := hok
        have o1' : ¬ after[k][j] ≤ last := by omega
        have o2' : ¬ (after.length : Int) ≤ after[k][j] := by omega
        have o3' : (after[k][j] == (k : Int)) = false := by simpa using o3
        have hnx : Hid (placesB after.length k after[k] = ascB after.length k after[k][j] (after[k].drop (j + 1))) := by
          rw [hdr, decide_eq_true o1, decide_eq_true o2, o3']; rfl
        clear hdr hpl
        (repeat' first
    | with_reducible first | exact ⟨⟩ | (refine gB ?_; intros) | refine gT ?_ ?_
    | refine gs ?_
    | refine sx ?_)
        refine next_k hj2 hjlt ?_ FR
        (repeat' first
    | with_reducible first | exact ⟨⟩ | (refine gB ?_; intros) | refine gT ?_ ?_
    | refine gs ?_
    | refine sx ?_)
        exact ⟨_, rfl, hnx.out⟩
      · have hR : R = false := hfk.out (by
          rw [hdr]
          cases h1 : decide (last < after[k][j])
          · rfl
          · cases h2 : decide (after[k][j] < (after.length : Int))
            · rfl
            · cases h3 : (after[k][j] == (k : Int))
              · exact absurd ⟨of_decide_eq_true h1, of_decide_eq_true h2, by simpa using h3⟩ hok
              · rfl)
        rw [hR]
        have hok' : Hid _ := hok
        clear hdr hpl hok hR
        (repeat' first
    | with_reducible first | exact ⟨⟩ | (refine gB ?_; intros) | refine gT ?_ ?_
    | refine gs ?_
    | refine sx ?_)
        all_goals exact absurd ⟨by omega, by omega, by assumption⟩ hok'.out
    · rintro g2 wj nj sj bj ⟨hi2, hf2, last, hl7, hpl⟩
      simp (maxDischargeDepth := 3) only [U, ↓reduceIte, Nat.reduceEqDiff, *] at hf2
      rw [List.drop_length] at hpl
      have hok : Hid (∀ i (hi : i < after.length), i < k + 1 → placesB after.length i after[i] = true) := fun i hi h => by
        rcases Nat.lt_or_eq_of_le (Nat.le_of_lt_succ h) with h3 | rfl
        · exact hpk'.out i hi h3
        · exact hpl.out
      clear hpl
      (repeat' first
    | with_reducible first | exact ⟨⟩ | (refine gB ?_; intros) | refine gT ?_ ?_
    | refine gs ?_
    | refine sx ?_)
      refine st_one (i := k) KR hlm rfl fun w5 n5 k5 s5 => ?_
      have K5 : Hid (Blk w5 bw 3 ((lensW after after.length (k + 1)).map intV)) := by
        have := k5.2.1 _ k5.2.2.1
        rw [← hlnx.out, List.map_set]
        exact this
      clear k5
      (repeat' first
    | with_reducible first | exact ⟨⟩ | (refine gB ?_; intros) | refine gT ?_ ?_
    | refine gs ?_
    | refine sx ?_)
      refine next_b hk' hlt ?_ FR
      (repeat' first
    | with_reducible first | exact ⟨⟩ | (refine gB ?_; intros) | refine gT ?_ ?_
    | refine gs ?_
    | refine sx ?_)
      all_goals exact ⟨K5.out, hok.out⟩
  · rintro g wk nk sk ck hbk ⟨hi, hf, hq⟩
    simp (maxDischargeDepth := 3) only [U, ↓reduceIte, Nat.reduceEqDiff, *] at hf
    obtain ⟨Kk, hpk⟩ := hq.out
    have hpa : Hid (placesAll after.length 0 after = true) := placesAll_iff.2 fun k hk => by rw [Nat.zero_add]; exact hpk k hk hk
    rw [lens_wait] at Kk
    have hO : Hid (PlO after) := places_plo hpa.out
    have hwl : ∀ D, (waitL after D).length = after.length := fun D => by simp [waitL]
    have hix : Hid (∀ D w' (_ : Blk w' bw 3 ((waitL after D).map intV)), Ret Tryz.prog 52 #[.slice (some ⟨bw, 0, none⟩) after.length after.length, .int .i64 0] w' (intV (fidx (fun y => (0 : Int) == y) (waitL after D)))) := fun D w' hb => slicesIndexI (Nat.le_refl _) (row_slI hb (hwl D) h12)
    have hixk := fun w' (h : Kp bw wk w') => hix.out [] w' (Kk.kp h)
    have hKk : Hid (Blk wk bw 3 ((waitL after []).map intV)) := Kk
    have hkpk : Kp bw wk wk := ⟨Kk.lt, rfl⟩
    have hBk : Bl B w wk := FR
    have hxk : Ext w wk := FR
    have hc1k : Blk wk b1 33 [sv, av] := ck01.2.1 _ FR
    have ck1 := hc1k.bk
    clear hq hpk Kk ck01
    (repeat' first
    | with_reducible first | exact ⟨⟩ | (refine gB ?_; intros) | refine gT ?_ ?_
    | refine gs ?_
    | ((with_reducible refine at_f 52 ?_); refine ret_k (hixk _ FR) fun _ _ _ => ?_)
    | refine sx ?_)
    rename_i wz nz sz
    have hxkz : Ext wk wz := by
      have h1 : Ext wk wk := Ext.refl wk
      exact FR
    have hKz : Hid (Blk wz bw 3 ((waitL after []).map intV)) := hKk.out.ext hxkz
    have hblz : bw < wz.heap.size := hKz.out.lt
    have hBz : Bl B w wz := FR
    have hxz : Ext w wz := FR
    have ckz := (hc1k.ext hxkz).bk
    have hz1 : Blk wz b1 33 [sv, av] := hc1k.ext hxkz
    have I0 : Hid (InI wz wz bw after []) := ⟨Chg.refl' _ _, hKz.out, Kn.nil⟩
    clear hixk hkpk ck1 hKk hc1k
    refine loop_y after.length (fun g0 m g w' => (g 1 = g0 1 ∧ g 3 = g0 3 ∧ g 4 = g0 4) ∧ ∃ D : List Nat, D.length + m = after.length ∧ g 10 = .int .i64 (D.length : Int) ∧ g 11 = .int .i64 (fidx (fun y => (0 : Int) == y) (waitL after D)) ∧ Hid (InI wz w' bw after D)) KR ?_ ?_
    · (repeat' first
    | with_reducible first | exact ⟨⟩ | (refine gB ?_; intros) | refine gT ?_ ?_
    | refine gs ?_
    | refine sx ?_)
      exact ⟨[], by simp, rfl, rfl, I0.out⟩
    · rintro m g2 w2 n2 ⟨hf2, D, hDm, h10, h11, hq2⟩
      simp (maxDischargeDepth := 3) only [U, ↓reduceIte, Nat.reduceEqDiff, *] at hf2
      obtain ⟨c2, K2, hK2⟩ := hq2.out
      have s2 := c2.sc
      have hB2 : Bl B w w2 := FR
      have hx2 : Ext w w2 := FR
      have hbl2 : bw < w2.heap.size := K2.lt
      have hz2 : Blk w2 b1 33 [sv, av] := c2.blk hz1 hb1w
      have ck2 := hz2.bk
      have kk2 := K2.bk
      have K2' : Hid (Blk w2 bw 3 ((waitL after D).map intV)) := K2
      have hK2' : Hid (Kn after D) := hK2
      have hDm' : Hid (D.length + m = after.length) := hDm
      have c2' : Hid (Cg bw wz w2) := c2
      have r2 := Ext.refl w2
      clear hq2 K2 hK2 c2 hDm
      by_cases hneg : 0 ≤ fidx (fun y => (0 : Int) == y) (waitL after D)
      rotate_left
      · have e : decide (D.length = after.length) = R := hend.out D hpa.out hK2'.out fun i hi h0 => by
          have hm : waitS after D i ∈ waitL after D := List.mem_map.2 ⟨i, List.mem_range.2 hi, rfl⟩
          exact fidx_neg hneg _ hm h0
        have e2 : ((D.length : Int) == (after.length : Int)) = R := by
          rw [← e, Bool.eq_iff_iff]; simp only [beq_iff_eq, decide_eq_true_eq]; omega
        (repeat' first
    | with_reducible first | exact ⟨⟩ | (refine gB ?_; intros) | refine gT ?_ ?_
    | refine gs ?_
    | refine sx ?_)
        all_goals exact congrArg Value.bool e2
      · obtain ⟨j, hj, hjl, hj0⟩ := fidx_pos hneg
        have hja : j < after.length := by rw [← hwl D]; exact hjl
        have hw0 : waitS after D j = 0 := by simpa [waitL] using hj0
        have hjD := (wait_zero.1 hw0).1
        rw [hj] at h11
        have hjm : j < ((waitL after D).map intV).length := by rw [List.length_map]; exact hjl
        have hwj : IntKind.i64.wrap ((D.length : Int) + 1) = ((D.length + 1 : Nat) : Int) := by have := hDm'.out; rw [wrap_i64_id] <;> omega
        have hjD' : Hid (j ∉ D) := hjD
        have hln1 : Hid (D.length + 1 ≤ after.length) := (hK2'.out.add hja hw0).len_le
        have hw0' : Hid (waitS after D j = 0) := hw0
        have hj0n : (0 : Int) ≤ (j : Int) := Int.natCast_nonneg j
        clear hneg hj hj0 hw0 hjD hjl
        (repeat' first
    | with_reducible first | exact ⟨⟩ | (refine gB ?_; intros) | refine gT ?_ ?_
    | refine gs ?_
    | refine sx ?_)
        refine st_one (i := j) KR hjm rfl fun w3 n3 k3 s3 => ?_
        have K3 : Hid (Blk w3 bw 3 ((decW after D j 0).map intV)) := by
          have := k3.2.1 _ k3.2.2.1
          rw [← dec_zero hja, List.map_set]
          exact this
        have hbl3 : bw < w3.heap.size := K3.out.lt
        have c23 : Hid (Cg bw wz w3) := s3.2.2.2.2.2.2.1 wz c2'.out
        have hz3 : Blk w3 b1 33 [sv, av] := ck2.2.1 _ FR
        have ck3 := hz3.bk
        have hB3 : Bl B w w3 := FR
        have r3 := Ext.refl w3
        have c3 : Cg bw w3 w3 := Chg.refl' _ _
        clear k3 kk2 ck2
        (repeat' first
    | with_reducible first | exact ⟨⟩ | (refine gB ?_; intros) | refine gT ?_ ?_
    | refine gs ?_
    | refine sx ?_)
        have hdl : ∀ k, (decW after D j k).length = after.length := fun k => by simp [decW]
        refine loop_b bw after.length (fun g0 k g w' => g 77 = .int .i64 (k : Int) ∧ (g 1 = g0 1 ∧ g 3 = g0 3 ∧ g 4 = g0 4 ∧ g 10 = g0 10 ∧ g 11 = g0 11 ∧ g 75 = g0 75 ∧ g 76 = g0 76) ∧ Hid (Blk w' bw 3 ((decW after D j k).map intV))) KR hmaxa hbl3 ?_ ?_ ?_
        · (repeat' first
    | with_reducible first | exact ⟨⟩ | (refine gB ?_; intros) | refine gT ?_ ?_
    | refine gs ?_
    | refine sx ?_)
          all_goals exact K3.out
        · rintro k m4 g4 w4 hk4 hlt4 n4 s4 c4 hbl4 hw4 ⟨hi4, hf4, hq4⟩
          simp (maxDischargeDepth := 3) only [U, ↓reduceIte, Nat.reduceEqDiff, *] at hf4
          have K4 : Hid (Blk w4 bw 3 ((decW after D j k).map intV)) := hq4
          have kk4 := hq4.out.bk
          obtain ⟨u, hu, hU, hSl⟩ := hrow.out k hlt4
          have hB4 : Bl B w w4 := FR
          have hwB : ∀ w', Bl B w w' → B ≤ w'.heap.size := fun w' h => h.size
          have hct := fun w' (h : Bl B w w') => slicesContainsI (x := (j : Int)) h.size (hSl.bl h)
          have hmem : after[k].contains (j : Int) = decide (j ∈ aftN after k) := by
            have := hO.out.mem (i := k) (j := j) hlt4
            simp only [hlt4, List.getElem?_eq_getElem, Option.getD_some] at this
            exact this
          rw [hmem] at hct
          have hkl : k < ((decW after D j k).map intV).length := by rw [List.length_map, hdl]; exact hlt4
          have hgt := dec_get (D := D) (j := j) hlt4
          have hwr := wait_rng (D := D) hlt4
          have hmx := hSl.max_
          clear hq4 hSl hmem
          by_cases hc : j ∈ aftN after k
          · have hkj : ¬ k = j := fun e => hO.out.self hja (e ▸ hc)
            rw [if_neg hkj] at hgt
            rw [decide_eq_true hc] at hct
            have hdn : Hid ((decW after D j k).set k (waitS after D k - 1) = decW after D j (k + 1)) := dec_next hlt4 hkj hc
            have hws : IntKind.i64.wrap (waitS after D k - 1) = waitS after D k - 1 := by rw [wrap_i64_id] <;> omega
            clear hc hkj hwr
            (repeat' first
    | with_reducible first | exact ⟨⟩ | (refine gB ?_; intros) | refine gT ?_ ?_
    | refine gs ?_
    | ((with_reducible refine at_f 22 ?_); refine ret_k (hct _ FR) fun _ _ _ => ?_)
    | refine sx ?_)
            refine st_one (i := k) KR hkl rfl fun w5 n5 k5 s5 => ?_
            have K5 : Hid (Blk w5 bw 3 ((decW after D j (k + 1)).map intV)) := by
              have := k5.2.1 _ k5.2.2.1
              rw [← hdn.out, List.map_set]
              exact this
            clear k5
            (repeat' first
    | with_reducible first | exact ⟨⟩ | (refine gB ?_; intros) | refine gT ?_ ?_
    | refine gs ?_
    | refine sx ?_)
            refine next_b hk4 hlt4 ?_ FR
            (repeat' first
    | with_reducible first | exact ⟨⟩ | (refine gB ?_; intros) | refine gT ?_ ?_
    | refine gs ?_
    | refine sx ?_)
            all_goals exact K5.out
          · rw [decide_eq_false hc] at hct
            have hds : Hid (decW after D j k = decW after D j (k + 1)) := dec_skip hc
            clear hc hwr
            (repeat' first
    | with_reducible first | exact ⟨⟩ | (refine gB ?_; intros) | refine gT ?_ ?_
    | refine gs ?_
    | ((with_reducible refine at_f 22 ?_); refine ret_k (hct _ FR) fun _ _ _ => ?_)
    | refine sx ?_)
            rename_i w5 n5 s5
            have hx45 : Ext w4 w5 := by
              have h1 : Ext w4 w4 := Ext.refl w4
              exact FR
            have K5 : Hid (Blk w5 bw 3 ((decW after D j (k + 1)).map intV)) := by
              have := K4.out.ext hx45
              rw [hds.out] at this
              exact this
            refine next_b hk4 hlt4 ?_ FR
            (repeat' first
    | with_reducible first | exact ⟨⟩ | (refine gB ?_; intros) | refine gT ?_ ?_
    | refine gs ?_
    | refine sx ?_)
            all_goals exact K5.out
        · rintro g4 w4 n4 s4 c4 hbl4 ⟨hi4, hf4, hq4⟩
          simp (maxDischargeDepth := 3) only [U, ↓reduceIte, Nat.reduceEqDiff, *] at hf4
          have K4 : Blk w4 bw 3 ((waitL after (j :: D)).map intV) := by
            have := hq4.out
            rw [dec_full hO.out hK2'.out hja hjD'.out] at this
            exact this
          have kk4 := K4.bk
          have hkp4 : Kp bw w4 w4 := ⟨hbl4, rfl⟩
          have hix4 := fun w' (h : Kp bw w4 w') => hix.out (j :: D) w' (K4.kp h)
          have c34 : Cg bw wz w4 := by
            have h1 : Cg bw wz w3 := c23.out
            exact FR
          have F : Hid (∀ w', Ext w4 w' → InI wz w' bw after (j :: D)) := fun w' hx => ⟨c34.trans_ext hx, K4.ext hx, hK2'.out.add hja hw0'.out⟩
          have r4 := Ext.refl w4
          clear hq4 K4 c34
          (repeat' first
    | with_reducible first | exact ⟨⟩ | (refine gB ?_; intros) | refine gT ?_ ?_
    | refine gs ?_
    | ((with_reducible refine at_f 52 ?_); refine ret_k (hix4 _ FR) fun _ _ _ => ?_)
    | refine sx ?_)
          refine next_y (m' := m - 1) (by have h1 := hDm'.out; have h2 := hln1.out; omega) ?_
          (repeat' first
    | with_reducible first | exact ⟨⟩ | (refine gB ?_; intros) | refine gT ?_ ?_
    | refine gs ?_
    | refine sx ?_)
          exact ⟨j :: D, by have h1 := hDm'.out; have h2 := hln1.out; rw [List.length_cons]; omega, by simp, rfl, F.out _ FR⟩
end
end Go.Proofs.YtopfddchckdhgaaGreat
