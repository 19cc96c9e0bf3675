
/- The layer order: how many lines go on from an ideal; what is known is kept in a map. -/
import Derived.Test.YteeaccnklkcchaaDoorRelE
import Derived.Test.YteeaccnklkcchaaDoorMapI
import Derived.Test.YteeaccnklkcchaaDoorOrd10
import Derived.Test.YteeaccnklkcchaaDoorOpen
namespace Go.Proofs.YteeaccnklkcchaaDoor
set_option linter.unusedSimpArgs false
set_option linter.unusedVariables false
open Go Go.RowKit
set_option maxRecDepth 100000
set_option linter.unusedSectionVars false
set_option maxHeartbeats 2000000
def wayV (b1 b2 b3 : Nat) : Value := .func (.func 68) #[] #[.pointer (some ⟨b1, 0, none⟩), .pointer (some ⟨b2, 0, none⟩), .pointer (some ⟨b3, 0, none⟩)]
abbrev tWay : TypeId := 84
theorem way_under : Tryd.prog.underlying tWay = some (.map 3 3) := by kernel_rfl
theorem int_under : Tryd.prog.underlying 3 = some (.int .i64) := by kernel_rfl
theorem int_zero (w : World) : (zeroValue 3).run Tryd.prog w = .ok (.int .i64 0) w := by kernel_rfl
def GoodM (ds : List Nat) (l : List (Int × Value)) : Prop := (∀ p ∈ l, ∃ s : Nat, p = ((s : Int), natV (wayS ds s)) ∧ s < 2 ^ ds.length) ∧ ∃ v, (((2 ^ ds.length - 1 : Nat) : Int), v) ∈ l
def Gd (bm : Nat) (ds : List Nat) (w : World) : Prop := ∃ l, MapB w bm .i64 l ∧ GoodM ds l
def WyE (bm : Nat) (ds : List Nat) (w w' : World) : Prop := Chg w w' bm ∧ (Gd bm ds w → Gd bm ds w')
theorem WyE.refl (bm : Nat) (ds : List Nat) (w : World) : WyE bm ds w w := ⟨Chg.refl' w bm, id⟩
theorem WyE.of {bm : Nat} {ds : List Nat} {w w' : World} (h : Ext w w') : WyE bm ds w w' := ⟨(Chg.refl' w bm).trans_ext h, fun ⟨l, h1, h2⟩ => ⟨l, h1.ext h, h2⟩⟩
theorem WyE.trans {bm : Nat} {ds : List Nat} {a b c : World} (h : WyE bm ds a b) (k : WyE bm ds b c) : WyE bm ds a c := ⟨h.1.trans_chg k.1 (.inl rfl), fun g => k.2 (h.2 g)⟩
theorem getM_mem {l : List (Int × Value)} {x : Int} {v : Value} (h : getM l x = some v) : (x, v) ∈ l := by
  unfold getM at h
  obtain ⟨p, hp, rfl⟩ := Option.map_eq_some_iff.1 h
  have h1 := List.find?_some hp
  have h2 := List.mem_of_find?_eq_some hp
  obtain rfl : p.1 = x := by simpa using h1
  exact h2
theorem getM_none' {l : List (Int × Value)} {x : Int} (h : getM l x = none) : ∀ v, (x, v) ∉ l := by
  intro v hv
  unfold getM at h
  rw [Option.map_eq_none_iff, List.find?_eq_none] at h
  exact h _ hv (by simp)
theorem GoodM.put {ds : List Nat} {l : List (Int × Value)} {s : Nat} (h : GoodM ds l) (hs : s < 2 ^ ds.length) : GoodM ds (putM l (s : Int) (natV (wayS ds s))) := by
  obtain ⟨h1, v, h2⟩ := h
  unfold putM
  split
  · refine ⟨fun p hp => ?_, ?_⟩
    · obtain ⟨q, hq, rfl⟩ := List.mem_map.1 hp
      split
      · exact ⟨s, rfl, hs⟩
      · exact h1 q hq
    · by_cases e : ((2 ^ ds.length - 1 : Nat) : Int) = (s : Int)
      · exact ⟨_, List.mem_map.2 ⟨_, h2, by rw [if_pos e, ← e]⟩⟩
      · exact ⟨v, List.mem_map.2 ⟨_, h2, by rw [if_neg e]⟩⟩
  · refine ⟨fun p hp => ?_, v, List.mem_append_left _ h2⟩
    rcases List.mem_append.1 hp with h | h
    · exact h1 p h
    · obtain rfl := List.mem_singleton.1 h
      exact ⟨s, rfl, hs⟩
/-- What a count has about it. -/
structure WayB (w : World) (B bm b1 b2 b3 : Nat) (nv vd va : Value) (ds : List Nat) : Prop where
  hB : B ≤ w.heap.size
  hm : B ≤ bm
  k1 : Blk w b1 tWay [.map (some bm)]
  k2 : Blk w b2 64 [nv, vd, va]
  k3 : Blk w b3 72 [wayV b1 b2 b3]
  hd : Sl w B none 1 vd (ds.map natV)
  g : Gd bm ds w
  t : TabW w
  ht : 2 ≤ B
theorem Gd.ne {bm b T : Nat} {ds : List Nat} {w : World} {cs : List Value} (h : Gd bm ds w) (hb : Blk w b T cs) : ¬ b = bm := by
  rintro rfl
  obtain ⟨l, hm, _⟩ := h
  obtain ⟨es, ck, h1, _⟩ := hm.ex
  have := hb.symm.trans h1
  cases this
theorem Gd.lt {bm : Nat} {ds : List Nat} {w : World} (h : Gd bm ds w) : bm < w.heap.size := by
  obtain ⟨l, hm, _⟩ := h
  exact hm.lt
theorem WayB.go {w w' : World} {B bm b1 b2 b3 : Nat} {nv vd va : Value} {ds : List Nat} (h : WayB w B bm b1 b2 b3 nv vd va ds) (hx : WyE bm ds w w') : WayB w' B bm b1 b2 b3 nv vd va ds :=
  ⟨Nat.le_trans h.hB hx.1.size, h.hm, hx.1.blk h.k1 (h.g.ne h.k1), hx.1.blk h.k2 (h.g.ne h.k2), hx.1.blk h.k3 (h.g.ne h.k3), h.hd.bl ((Bl.refl h.hB).chg hx.1 h.hm), hx.2 h.g, fun j hj => by
    have h1 := h.t j hj
    have hm := h.hm
    have ht := h.ht
    have hb := h.hB
    have e : w'.heap[1]? = w.heap[1]? := hx.1.block 1 (by omega) (by omega)
    simpa only [World.cell?, e] using h1, h.ht⟩
theorem WayB.ext {w w' : World} {B bm b1 b2 b3 : Nat} {nv vd va : Value} {ds : List Nat} (h : WayB w B bm b1 b2 b3 nv vd va ds) (hx : Ext w w') : WayB w' B bm b1 b2 b3 nv vd va ds := h.go (WyE.of hx)
theorem way_wf {s n : Nat} (h12 : n ≤ 12) (hs : s < 2 ^ n) : (Lit.int .i64 (s : Int)).wf = true := by
  have := two_pow_le h12
  simp [Lit.wf, IntKind.min, IntKind.max, IntKind.signed, IntKind.bits]
  omega
section
variable {w : World} {B bm b1 b2 b3 : Nat} {nv vd va : Value} {ds : List Nat} {s : Nat}
theorem waysStep (h12 : ds.length ≤ 12) (hdl : ∀ x, ds.getD x 0 < 4096) (f : Nat) (ih : ∀ {w : World} {s : Nat}, WayB w B bm b1 b2 b3 nv vd va ds → s < 2 ^ ds.length → ds.length - card s < f → CallsV Tryd.prog 68 #[natV s, .pointer (some ⟨b1, 0, none⟩), .pointer (some ⟨b2, 0, none⟩), .pointer (some ⟨b3, 0, none⟩)] w fun v w' => WyE bm ds w w' ∧ v = natV (wayS ds s))
    (hW : WayB w B bm b1 b2 b3 nv vd va ds) (hs : s < 2 ^ ds.length) (hf : ds.length - card s = f) : CallsV Tryd.prog 68 #[natV s, .pointer (some ⟨b1, 0, none⟩), .pointer (some ⟨b2, 0, none⟩), .pointer (some ⟨b3, 0, none⟩)] w fun v w' => WyE bm ds w w' ∧ v = natV (wayS ds s) := by
  have hn : Now w := trivial
  have hx : Ext w w := Ext.refl w
  have k1 := hW.k1.bk
  have k2 := hW.k2.bk
  have k3 := hW.k3.bk
  obtain ⟨l, hM, hG⟩ := hW.g
  have hp := two_pow_le h12
  (refine callsV_of Tryd.func68 rfl KR KR ?_; rw [Tryd.results68])
  (repeat' first
    | ((with_reducible refine at_row ?_); refine row1_a fun _ _ _ _ _ _ _ => ?_)
    | with_reducible first | (first | apply alloc_k | apply row_k); intro _ _ _ _ _ _ | (first | apply fork | apply forkp) <;> intro _ | refine forke (fun _ => ?_) fun _ _ => ?_ | refine tail_k fun _ _ _ => ?_ | refine ext_k fun _ _ _ => ?_ | refine need_a ?_ | refine st_agg KR rfl ON fun _ _ _ _ => ?_ | refine wpd_q_a ?_
    | simp (maxDischargeDepth := 3) only [↓X, ↓Y, ↓Q, S1, ↓reduceIte, Nat.reduceEqDiff, Nat.reduceAdd, Int.reduceLT, Int.reduceLE, Int.reduceNeg, Int.reduceBEq, Int.reduceBNe, Int.reduceEq, Nat.reduceLeDiff, Nat.reduceMul, Nat.reduceLT, *]
    | simp (singlePass := true) (maxDischargeDepth := 99) only [*, S2, Nat.reduceLT])
  refine lookup_k (n := (s : Int)) rfl rfl hM int_under way_under (way_wf h12 hs) (int_zero _) ?_
  cases hg : getM l (s : Int) with
  | some v =>
    obtain ⟨s', e, _⟩ := hG.1 _ (getM_mem hg)
    obtain ⟨e1, e2⟩ := Prod.mk.inj e
    obtain rfl : s = s' := by omega
    subst e2
    (repeat' first
    | ((with_reducible refine at_row ?_); refine row1_a fun _ _ _ _ _ _ _ => ?_)
    | with_reducible first | (first | apply alloc_k | apply row_k); intro _ _ _ _ _ _ | (first | apply fork | apply forkp) <;> intro _ | refine forke (fun _ => ?_) fun _ _ => ?_ | refine tail_k fun _ _ _ => ?_ | refine ext_k fun _ _ _ => ?_ | refine need_a ?_ | refine st_agg KR rfl ON fun _ _ _ _ => ?_ | refine wpd_q_a ?_
    | simp (maxDischargeDepth := 3) only [↓X, ↓Y, ↓Q, S1, ↓reduceIte, Nat.reduceEqDiff, Nat.reduceAdd, Int.reduceLT, Int.reduceLE, Int.reduceNeg, Int.reduceBEq, Int.reduceBNe, Int.reduceEq, Nat.reduceLeDiff, Nat.reduceMul, Nat.reduceLT, *, Option.isSome_some, Option.getD_some]
    | simp (singlePass := true) (maxDischargeDepth := 99) only [*, S2, Nat.reduceLT, Option.isSome_some, Option.getD_some])
    exact WyE.refl _ _ _
  | none =>
    have hne : s ≠ 2 ^ ds.length - 1 := by
      rintro rfl
      obtain ⟨v, hv⟩ := hG.2
      exact getM_none' hg v hv
    have hst := wayS_step h12 hs hne
    have hrl := rdyF_lt s ds 0
    rw [Nat.zero_add] at hrl
    have hr4 : rdyF s 0 ds < 4096 := by omega
    have hrm : ∀ i, i ∈ lst (rdyF s 0 ds) → i < ds.length ∧ s.testBit i = false := fun i hi => rdy_mem h12 hi
    have hll := lst_len12 (rdyF s 0 ds)
    have hrdy := orderReady (nv := nv) (va := va) hW.hB hW.hd (fun d hd => by obtain ⟨i, hi, rfl⟩ := List.getElem_of_mem hd; rw [getN hi]; exact hdl i) h12 (show s < 4096 by omega)
    have hL := lst_len12 (rdyF s 0 ds)
    generalize hR : rdyF s 0 ds = R at *
    replace hrm : Hid _ := hrm
    replace hdl : Hid _ := hdl
    replace hst : Hid _ := hst
    have hWx := fun w' (h : WyE bm ds w w') => hW.go h
    have hxw := WyE.refl bm ds w
    have hbm := hW.g.lt
    have hBw := hW.hB
    have hn1 := hW.g.ne hW.k1
    have hn2 := hW.g.ne hW.k2
    have hn3 := hW.g.ne hW.k3
    (repeat' first
    | ((with_reducible refine at_row ?_); refine row1_a fun _ _ _ _ _ _ _ => ?_)
    | with_reducible first | (first | apply alloc_k | apply row_k); intro _ _ _ _ _ _ | (first | apply fork | apply forkp) <;> intro _ | refine forke (fun _ => ?_) fun _ _ => ?_ | refine tail_k fun _ _ _ => ?_ | refine ext_k fun _ _ _ => ?_ | refine need_a ?_ | refine st_agg KR rfl ON fun _ _ _ _ => ?_ | refine wpd_q_a ?_
    | ((with_reducible refine at_f 53 ?_); refine ret_k (hrdy) fun _ _ _ => ?_)
    | simp (maxDischargeDepth := 3) only [↓X, ↓Y, ↓Q, S1, ↓reduceIte, Nat.reduceEqDiff, Nat.reduceAdd, Int.reduceLT, Int.reduceLE, Int.reduceNeg, Int.reduceBEq, Int.reduceBNe, Int.reduceEq, Nat.reduceLeDiff, Nat.reduceMul, Nat.reduceLT, *, Option.isSome_none]
    | simp (singlePass := true) (maxDischargeDepth := 99) only [*, S2, Nat.reduceLT, Option.isSome_none])
    rename_i wA nA sA
    have hxA : Ext w wA := FR
    refine call_k (orderList (s := R) (hW.t.ext hxA) hr4) ?_
    intro u w7 n7 s7 hu
    have hxB : WyE bm ds w w7 := WyE.of FR
    have hbl : bm < wA.heap.size := FR
    have hfu := hu.far hbl
    have KU := (hu.sl1 (f := natV)).v (Nat.le_refl _)
    have hun : Hid (0 < 1) := Nat.one_pos
    clear hu
    (repeat' first
    | ((with_reducible refine at_row ?_); refine row1_a fun _ _ _ _ _ _ _ => ?_)
    | with_reducible first | (first | apply alloc_k | apply row_k); intro _ _ _ _ _ _ | (first | apply fork | apply forkp) <;> intro _ | refine forke (fun _ => ?_) fun _ _ => ?_ | refine tail_k fun _ _ _ => ?_ | refine ext_k fun _ _ _ => ?_ | refine need_a ?_ | refine st_agg KR rfl ON fun _ _ _ _ => ?_ | refine wpd_q_a ?_
    | simp (maxDischargeDepth := 3) only [↓X, ↓Y, ↓Q, S1, ↓reduceIte, Nat.reduceEqDiff, Nat.reduceAdd, Int.reduceLT, Int.reduceLE, Int.reduceNeg, Int.reduceBEq, Int.reduceBNe, Int.reduceEq, Nat.reduceLeDiff, Nat.reduceMul, Nat.reduceLT, *]
    | simp (singlePass := true) (maxDischargeDepth := 99) only [*, S2, Nat.reduceLT])
    have hcal : callable Tryd.prog 68 = true := by kernel_rfl
    have hb7 : bm < w7.heap.size := FR
    have hB7 : B ≤ w7.heap.size := FR
    have hg7 : Gd bm ds w7 := hxB.2 hW.g
    have hih : Hid (∀ {w : World} {s : Nat}, WayB w B bm b1 b2 b3 nv vd va ds → s < 2 ^ ds.length → ds.length - card s < f → CallsV Tryd.prog 68 #[natV s, .pointer (some ⟨b1, 0, none⟩), .pointer (some ⟨b2, 0, none⟩), .pointer (some ⟨b3, 0, none⟩)] w fun v w' => WyE bm ds w w' ∧ v = natV (wayS ds s)) := ih
    replace hWx : Hid _ := hWx
    have hcs := card_le hs h12
    have hcn : card s ≠ ds.length := fun e => hne ((card_full hs h12).1 e)
    clear ih hW hM hG hg hrdy
    refine loop_b bm (lst R).length (fun g0 k g w' => g 24 = .int .i64 k ∧ (g 0 = g0 0 ∧ g 1 = g0 1 ∧ g 3 = g0 3 ∧ g 22 = g0 22 ∧ g 23 = g0 23) ∧ g 8 = .int .i64 (((((lst R).map fun i => wayS ds (s ||| 2 ^ i)).take k).sum : Nat) : Int) ∧ Hid (Gd bm ds w')) KR (by omega) hb7 ?_ ?_ ?_
    · (repeat' first
    | ((with_reducible refine at_row ?_); refine row1_a fun _ _ _ _ _ _ _ => ?_)
    | with_reducible first | (first | apply alloc_k | apply row_k); intro _ _ _ _ _ _ | (first | apply fork | apply forkp) <;> intro _ | refine forke (fun _ => ?_) fun _ _ => ?_ | refine tail_k fun _ _ _ => ?_ | refine ext_k fun _ _ _ => ?_ | refine need_a ?_ | refine st_agg KR rfl ON fun _ _ _ _ => ?_ | refine wpd_q_a ?_
    | simp (maxDischargeDepth := 3) only [↓X, ↓Y, ↓Q, S1, ↓reduceIte, Nat.reduceEqDiff, Nat.reduceAdd, Int.reduceLT, Int.reduceLE, Int.reduceNeg, Int.reduceBEq, Int.reduceBNe, Int.reduceEq, Nat.reduceLeDiff, Nat.reduceMul, Nat.reduceLT, *]
    | simp (singlePass := true) (maxDischargeDepth := 99) only [*, S2, Nat.reduceLT])
      all_goals exact ⟨rfl, trivial⟩
    · rintro k m g wk hk hlt nk sk ck hbk hw ⟨hi, hf, h8, hp⟩
      simp (maxDischargeDepth := 3) only [U, ↓reduceIte, Nat.reduceEqDiff, *] at hf
      have hck : Cg bm w7 wk := FR
      have hWk := hWx.out wk (hxB.trans ⟨hck, fun _ => hp.out⟩)
      obtain ⟨hi1, hi2⟩ := hrm.out _ (List.getElem_mem hlt)
      generalize hie : (lst R)[k] = i at *
      have e1 := shlI_nat (k := i) (by omega)
      have h2i := two_pow_le (k := i) (by omega)
      have hor := or_lt hs hi1
      have e2 := orI_nat (a := s) (b := 2 ^ i) (by omega) (by omega)
      have hcd := card_or (s := s) (i := i) (by omega) hi2
      have hkm : k < ((lst R).map fun i => wayS ds (s ||| 2 ^ i)).length := by rw [List.length_map]; exact hlt
      have htk : (((lst R).map fun i => wayS ds (s ||| 2 ^ i)).take (k + 1)).sum = (((lst R).map fun i => wayS ds (s ||| 2 ^ i)).take k).sum + wayS ds (s ||| 2 ^ i) := by
        rw [appLL_take hkm, List.sum_append, List.getElem_map, hie]; simp
      have htl := sum_take (l := (lst R).map fun i => wayS ds (s ||| 2 ^ i)) (k + 1)
      rw [← hst.out] at htl
      have hwl := wayS_le h12 s
      have hwi := wayS_le h12 (s ||| 2 ^ i)
      have hw9 : IntKind.i64.wrap ((((((lst R).map fun i => wayS ds (s ||| 2 ^ i)).take k).sum : Nat) : Int) + (wayS ds (s ||| 2 ^ i) : Nat)) = (((((lst R).map fun i => wayS ds (s ||| 2 ^ i)).take (k + 1)).sum : Nat) : Int) := by
        rw [htk, wrap_i64_id] <;> omega
      replace htk : Hid _ := htk
      replace htl : Hid _ := htl
      generalize ht1 : (((lst R).map fun i => wayS ds (s ||| 2 ^ i)).take (k + 1)).sum = tot1 at *
      replace ht1 : Hid _ := ht1
      generalize (((lst R).map fun i => wayS ds (s ||| 2 ^ i)).take k).sum = tot at *
      have k3k := hWk.k3.bk
      have hGk : Gd bm ds wk := hWk.g
      (repeat' first
    | ((with_reducible refine wpd_at 8 ?_); refine wpd_hold ?_)
    | ((with_reducible refine at_row ?_); refine row1_a fun _ _ _ _ _ _ _ => ?_)
    | with_reducible first | (first | apply alloc_k | apply row_k); intro _ _ _ _ _ _ | (first | apply fork | apply forkp) <;> intro _ | refine forke (fun _ => ?_) fun _ _ => ?_ | refine tail_k fun _ _ _ => ?_ | refine ext_k fun _ _ _ => ?_ | refine need_a ?_ | refine st_agg KR rfl ON fun _ _ _ _ => ?_ | refine wpd_q_a ?_
    | simp (maxDischargeDepth := 3) only [↓X, ↓Y, ↓Q, S1, ↓reduceIte, Nat.reduceEqDiff, Nat.reduceAdd, Int.reduceLT, Int.reduceLE, Int.reduceNeg, Int.reduceBEq, Int.reduceBNe, Int.reduceEq, Nat.reduceLeDiff, Nat.reduceMul, Nat.reduceLT, *, hie]
    | simp (singlePass := true) (maxDischargeDepth := 99) only [*, S2, Nat.reduceLT, hie])
      unfold wpdH
      refine wpd_relE (E := WyE bm ds) WyE.of WyE.trans 7 (fun iI v w9 => match iI with
        | 0 => v = .int .i64 (tot : Nat)
        | 1 => v = wayV b1 b2 b3
        | 2 => v = .int .i64 (s : Nat)
        | 3 => v = .int .i64 (i : Nat)
        | 4 => v = .int .i64 ((2 ^ i : Nat) : Int)
        | 5 => v = .int .i64 ((s ||| 2 ^ i : Nat) : Int)
        | 6 => v = .int .i64 (wayS ds (s ||| 2 ^ i) : Nat)
        | _ => False) KR KR KR ?_ ?_ ?_
      · intro iI v w1 w2 hR hx9
        match iI, hR with
        | 0, h => exact h
        | 1, h => exact h
        | 2, h => exact h
        | 3, h => exact h
        | 4, h => exact h
        | 5, h => exact h
        | 6, h => exact h
      · intro iI oO hi ho gF w9 hx9 hdep hag
        have s9 := hx9.1.sc
        have n9 : Now w9 := trivial
        have r9 := Ext.refl w9
        have z9 := hx9.1.size
        have rE := WyE.refl bm ds w9
        rcases iI with _|_|_|_|_|_|_|iI
        · have e := Option.some.inj ho
          subst e
          have a8 := hag.at 8 KR
          simp only [S5, ↓reduceIte, Nat.reduceEqDiff, initF, *] at a8
          clear hag hdep ho
          refine relStep_off rfl ?_
          (repeat' first
    | ((with_reducible refine at_row ?_); refine row1_a fun _ _ _ _ _ _ _ => ?_)
    | with_reducible first | (first | apply alloc_k | apply row_k); intro _ _ _ _ _ _ | (first | apply fork | apply forkp) <;> intro _ | refine forke (fun _ => ?_) fun _ _ => ?_ | refine tail_k fun _ _ _ => ?_ | refine ext_k fun _ _ _ => ?_ | refine need_a ?_ | refine st_agg KR rfl ON fun _ _ _ _ => ?_ | refine wpd_q_a ?_
    | simp (maxDischargeDepth := 3) only [↓X, ↓Y, ↓Q, S1, ↓reduceIte, Nat.reduceEqDiff, Nat.reduceAdd, Int.reduceLT, Int.reduceLE, Int.reduceNeg, Int.reduceBEq, Int.reduceBNe, Int.reduceEq, Nat.reduceLeDiff, Nat.reduceMul, Nat.reduceLT, *, wayV]
    | simp (singlePass := true) (maxDischargeDepth := 99) only [*, S2, Nat.reduceLT, wayV])
        · have e := Option.some.inj ho
          subst e
          have a3 := hag.at 3 KR
          simp only [S5, ↓reduceIte, Nat.reduceEqDiff, initF, *] at a3
          clear hag hdep ho
          refine relStep_off rfl ?_
          (repeat' first
    | ((with_reducible refine at_row ?_); refine row1_a fun _ _ _ _ _ _ _ => ?_)
    | with_reducible first | (first | apply alloc_k | apply row_k); intro _ _ _ _ _ _ | (first | apply fork | apply forkp) <;> intro _ | refine forke (fun _ => ?_) fun _ _ => ?_ | refine tail_k fun _ _ _ => ?_ | refine ext_k fun _ _ _ => ?_ | refine need_a ?_ | refine st_agg KR rfl ON fun _ _ _ _ => ?_ | refine wpd_q_a ?_
    | simp (maxDischargeDepth := 3) only [↓X, ↓Y, ↓Q, S1, ↓reduceIte, Nat.reduceEqDiff, Nat.reduceAdd, Int.reduceLT, Int.reduceLE, Int.reduceNeg, Int.reduceBEq, Int.reduceBNe, Int.reduceEq, Nat.reduceLeDiff, Nat.reduceMul, Nat.reduceLT, *, wayV]
    | simp (singlePass := true) (maxDischargeDepth := 99) only [*, S2, Nat.reduceLT, wayV])
        · have e := Option.some.inj ho
          subst e
          have a0 := hag.at 0 KR
          simp only [S5, ↓reduceIte, Nat.reduceEqDiff, initF, *] at a0
          clear hag hdep ho
          refine relStep_off rfl ?_
          (repeat' first
    | ((with_reducible refine at_row ?_); refine row1_a fun _ _ _ _ _ _ _ => ?_)
    | with_reducible first | (first | apply alloc_k | apply row_k); intro _ _ _ _ _ _ | (first | apply fork | apply forkp) <;> intro _ | refine forke (fun _ => ?_) fun _ _ => ?_ | refine tail_k fun _ _ _ => ?_ | refine ext_k fun _ _ _ => ?_ | refine need_a ?_ | refine st_agg KR rfl ON fun _ _ _ _ => ?_ | refine wpd_q_a ?_
    | simp (maxDischargeDepth := 3) only [↓X, ↓Y, ↓Q, S1, ↓reduceIte, Nat.reduceEqDiff, Nat.reduceAdd, Int.reduceLT, Int.reduceLE, Int.reduceNeg, Int.reduceBEq, Int.reduceBNe, Int.reduceEq, Nat.reduceLeDiff, Nat.reduceMul, Nat.reduceLT, *, wayV]
    | simp (singlePass := true) (maxDischargeDepth := 99) only [*, S2, Nat.reduceLT, wayV])
        · have e := Option.some.inj ho
          subst e
          have a10 := hag.at 10 KR
          simp only [S5, ↓reduceIte, Nat.reduceEqDiff, initF, *] at a10
          clear hag hdep ho
          refine relStep_off rfl ?_
          (repeat' first
    | ((with_reducible refine at_row ?_); refine row1_a fun _ _ _ _ _ _ _ => ?_)
    | with_reducible first | (first | apply alloc_k | apply row_k); intro _ _ _ _ _ _ | (first | apply fork | apply forkp) <;> intro _ | refine forke (fun _ => ?_) fun _ _ => ?_ | refine tail_k fun _ _ _ => ?_ | refine ext_k fun _ _ _ => ?_ | refine need_a ?_ | refine st_agg KR rfl ON fun _ _ _ _ => ?_ | refine wpd_q_a ?_
    | simp (maxDischargeDepth := 3) only [↓X, ↓Y, ↓Q, S1, ↓reduceIte, Nat.reduceEqDiff, Nat.reduceAdd, Int.reduceLT, Int.reduceLE, Int.reduceNeg, Int.reduceBEq, Int.reduceBNe, Int.reduceEq, Nat.reduceLeDiff, Nat.reduceMul, Nat.reduceLT, *, wayV]
    | simp (singlePass := true) (maxDischargeDepth := 99) only [*, S2, Nat.reduceLT, wayV])
        · have e := Option.some.inj ho
          subst e
          have d3 : (gF 31) = .int .i64 (i : Nat) := hdep ⟨3, .data⟩ (by simp) rfl _ _ rfl rfl
          clear hag hdep ho
          refine relStep_off rfl ?_
          (repeat' first
    | ((with_reducible refine at_row ?_); refine row1_a fun _ _ _ _ _ _ _ => ?_)
    | with_reducible first | (first | apply alloc_k | apply row_k); intro _ _ _ _ _ _ | (first | apply fork | apply forkp) <;> intro _ | refine forke (fun _ => ?_) fun _ _ => ?_ | refine tail_k fun _ _ _ => ?_ | refine ext_k fun _ _ _ => ?_ | refine need_a ?_ | refine st_agg KR rfl ON fun _ _ _ _ => ?_ | refine wpd_q_a ?_
    | simp (maxDischargeDepth := 3) only [↓X, ↓Y, ↓Q, S1, ↓reduceIte, Nat.reduceEqDiff, Nat.reduceAdd, Int.reduceLT, Int.reduceLE, Int.reduceNeg, Int.reduceBEq, Int.reduceBNe, Int.reduceEq, Nat.reduceLeDiff, Nat.reduceMul, Nat.reduceLT, *, wayV]
    | simp (singlePass := true) (maxDischargeDepth := 99) only [*, S2, Nat.reduceLT, wayV])
        · have e := Option.some.inj ho
          subst e
          have d2 : (gF 30) = .int .i64 (s : Nat) := hdep ⟨2, .data⟩ (by simp) rfl _ _ rfl rfl
          have d4 : (gF 32) = .int .i64 ((2 ^ i : Nat) : Int) := hdep ⟨4, .data⟩ (by simp) rfl _ _ rfl rfl
          clear hag hdep ho
          refine relStep_off rfl ?_
          (repeat' first
    | ((with_reducible refine at_row ?_); refine row1_a fun _ _ _ _ _ _ _ => ?_)
    | with_reducible first | (first | apply alloc_k | apply row_k); intro _ _ _ _ _ _ | (first | apply fork | apply forkp) <;> intro _ | refine forke (fun _ => ?_) fun _ _ => ?_ | refine tail_k fun _ _ _ => ?_ | refine ext_k fun _ _ _ => ?_ | refine need_a ?_ | refine st_agg KR rfl ON fun _ _ _ _ => ?_ | refine wpd_q_a ?_
    | simp (maxDischargeDepth := 3) only [↓X, ↓Y, ↓Q, S1, ↓reduceIte, Nat.reduceEqDiff, Nat.reduceAdd, Int.reduceLT, Int.reduceLE, Int.reduceNeg, Int.reduceBEq, Int.reduceBNe, Int.reduceEq, Nat.reduceLeDiff, Nat.reduceMul, Nat.reduceLT, *, wayV]
    | simp (singlePass := true) (maxDischargeDepth := 99) only [*, S2, Nat.reduceLT, wayV])
        · have e := Option.some.inj ho
          subst e
          have d1 : (gF 29) = wayV b1 b2 b3 := hdep ⟨1, .data⟩ (by simp) rfl _ _ rfl rfl
          have d5 : (gF 33) = .int .i64 ((s ||| 2 ^ i : Nat) : Int) := hdep ⟨5, .data⟩ (by simp) rfl _ _ rfl rfl
          clear hag hdep ho
          refine relStep_off rfl ?_
          (repeat' first
    | ((with_reducible refine at_row ?_); refine row1_a fun _ _ _ _ _ _ _ => ?_)
    | with_reducible first | (first | apply alloc_k | apply row_k); intro _ _ _ _ _ _ | (first | apply fork | apply forkp) <;> intro _ | refine forke (fun _ => ?_) fun _ _ => ?_ | refine tail_k fun _ _ _ => ?_ | refine ext_k fun _ _ _ => ?_ | refine need_a ?_ | refine st_agg KR rfl ON fun _ _ _ _ => ?_ | refine wpd_q_a ?_
    | simp (maxDischargeDepth := 3) only [↓X, ↓Y, ↓Q, S1, ↓reduceIte, Nat.reduceEqDiff, Nat.reduceAdd, Int.reduceLT, Int.reduceLE, Int.reduceNeg, Int.reduceBEq, Int.reduceBNe, Int.reduceEq, Nat.reduceLeDiff, Nat.reduceMul, Nat.reduceLT, *, wayV]
    | simp (singlePass := true) (maxDischargeDepth := 99) only [*, S2, Nat.reduceLT, wayV])
          exact hih.out (hWk.go hx9) hor (by omega)
        · omega
      · intro g9 w9 hx9 hR hag
        have s9 := hx9.1.sc
        have n9 : Now w9 := trivial
        have r9 := Ext.refl w9
        have z9 := hx9.1.size
        have rE := WyE.refl bm ds w9
        have d0 : (g9 28) = .int .i64 (tot : Nat) := hR 0 _ _ (by decide) rfl rfl
        have d6 : (g9 34) = .int .i64 (wayS ds (s ||| 2 ^ i) : Nat) := hR 6 _ _ (by decide) rfl rfl
        have a0 := hag.at 0 KR
        have a1 := hag.at 1 KR
        have a3 := hag.at 3 KR
        have a22 := hag.at 22 KR
        have a23 := hag.at 23 KR
        have a24 := hag.at 24 KR
        simp only [S5, ↓reduceIte, Nat.reduceEqDiff, initF, *] at a0 a1 a3 a22 a23 a24
        clear hag hR
        simp only [List.drop_succ_cons, List.drop_zero]
        have hg9 : Hid (Gd bm ds w9) := hx9.2 hGk
        clear hGk
        (repeat' first
    | ((with_reducible refine at_row ?_); refine row1_a fun _ _ _ _ _ _ _ => ?_)
    | with_reducible first | (first | apply alloc_k | apply row_k); intro _ _ _ _ _ _ | (first | apply fork | apply forkp) <;> intro _ | refine forke (fun _ => ?_) fun _ _ => ?_ | refine tail_k fun _ _ _ => ?_ | refine ext_k fun _ _ _ => ?_ | refine need_a ?_ | refine st_agg KR rfl ON fun _ _ _ _ => ?_ | refine wpd_q_a ?_
    | simp (maxDischargeDepth := 3) only [↓X, ↓Y, ↓Q, S1, ↓reduceIte, Nat.reduceEqDiff, Nat.reduceAdd, Int.reduceLT, Int.reduceLE, Int.reduceNeg, Int.reduceBEq, Int.reduceBNe, Int.reduceEq, Nat.reduceLeDiff, Nat.reduceMul, Nat.reduceLT, *, hw9]
    | simp (singlePass := true) (maxDischargeDepth := 99) only [*, S2, Nat.reduceLT, hw9])
        refine next_b hk hlt ?_ FR
        (repeat' first
    | ((with_reducible refine at_row ?_); refine row1_a fun _ _ _ _ _ _ _ => ?_)
    | with_reducible first | (first | apply alloc_k | apply row_k); intro _ _ _ _ _ _ | (first | apply fork | apply forkp) <;> intro _ | refine forke (fun _ => ?_) fun _ _ => ?_ | refine tail_k fun _ _ _ => ?_ | refine ext_k fun _ _ _ => ?_ | refine need_a ?_ | refine st_agg KR rfl ON fun _ _ _ _ => ?_ | refine wpd_q_a ?_
    | simp (maxDischargeDepth := 3) only [↓X, ↓Y, ↓Q, S1, ↓reduceIte, Nat.reduceEqDiff, Nat.reduceAdd, Int.reduceLT, Int.reduceLE, Int.reduceNeg, Int.reduceBEq, Int.reduceBNe, Int.reduceEq, Nat.reduceLeDiff, Nat.reduceMul, Nat.reduceLT, *]
    | simp (singlePass := true) (maxDischargeDepth := 99) only [*, S2, Nat.reduceLT])
        rw [ht1.out]
    · rintro g wk nk sk ck hbk ⟨hi, hf, h8, hp⟩
      simp (maxDischargeDepth := 3) only [U, ↓reduceIte, Nat.reduceEqDiff, *] at hf
      have hck : Cg bm w7 wk := FR
      have hWk := hWx.out wk (hxB.trans ⟨hck, fun _ => hp.out⟩)
      have hlen : ((lst R).map fun i => wayS ds (s ||| 2 ^ i)).length = (lst R).length := List.length_map _
      rw [← hlen, List.take_length, ← hst.out] at h8
      obtain ⟨l2, hM2, hG2⟩ := hp.out
      have k1k := hWk.k1.bk
      (repeat' first
    | ((with_reducible refine at_row ?_); refine row1_a fun _ _ _ _ _ _ _ => ?_)
    | with_reducible first | (first | apply alloc_k | apply row_k); intro _ _ _ _ _ _ | (first | apply fork | apply forkp) <;> intro _ | refine forke (fun _ => ?_) fun _ _ => ?_ | refine tail_k fun _ _ _ => ?_ | refine ext_k fun _ _ _ => ?_ | refine need_a ?_ | refine st_agg KR rfl ON fun _ _ _ _ => ?_ | refine wpd_q_a ?_
    | simp (maxDischargeDepth := 3) only [↓X, ↓Y, ↓Q, S1, ↓reduceIte, Nat.reduceEqDiff, Nat.reduceAdd, Int.reduceLT, Int.reduceLE, Int.reduceNeg, Int.reduceBEq, Int.reduceBNe, Int.reduceEq, Nat.reduceLeDiff, Nat.reduceMul, Nat.reduceLT, *]
    | simp (singlePass := true) (maxDischargeDepth := 99) only [*, S2, Nat.reduceLT])
      refine update_k (n := (s : Int)) (val := natV (wayS ds s)) rfl rfl rfl hM2 int_under way_under (way_wf h12 hs) fun w10 n10 m10 s10 => ?_
      have hck10 : Cg bm w7 w10 := FR
      have hxe := hxB.trans ⟨hck10, fun _ => ⟨_, m10, hG2.put hs⟩⟩
      (repeat' first
    | ((with_reducible refine at_row ?_); refine row1_a fun _ _ _ _ _ _ _ => ?_)
    | with_reducible first | (first | apply alloc_k | apply row_k); intro _ _ _ _ _ _ | (first | apply fork | apply forkp) <;> intro _ | refine forke (fun _ => ?_) fun _ _ => ?_ | refine tail_k fun _ _ _ => ?_ | refine ext_k fun _ _ _ => ?_ | refine need_a ?_ | refine st_agg KR rfl ON fun _ _ _ _ => ?_ | refine wpd_q_a ?_
    | simp (maxDischargeDepth := 3) only [↓X, ↓Y, ↓Q, S1, ↓reduceIte, Nat.reduceEqDiff, Nat.reduceAdd, Int.reduceLT, Int.reduceLE, Int.reduceNeg, Int.reduceBEq, Int.reduceBNe, Int.reduceEq, Nat.reduceLeDiff, Nat.reduceMul, Nat.reduceLT, *]
    | simp (singlePass := true) (maxDischargeDepth := 99) only [*, S2, Nat.reduceLT])
theorem waysCount (h12 : ds.length ≤ 12) (hdl : ∀ x, ds.getD x 0 < 4096) : ∀ (f : Nat) {w : World} {s : Nat}, WayB w B bm b1 b2 b3 nv vd va ds → s < 2 ^ ds.length → ds.length - card s < f → CallsV Tryd.prog 68 #[natV s, .pointer (some ⟨b1, 0, none⟩), .pointer (some ⟨b2, 0, none⟩), .pointer (some ⟨b3, 0, none⟩)] w fun v w' => WyE bm ds w w' ∧ v = natV (wayS ds s)
  | 0, _, _, _, _, h => absurd h (by omega)
  | f + 1, _, _, hW, hs, h => waysStep h12 hdl _ (fun hW' hs' h' => waysCount h12 hdl f hW' hs' (by omega)) hW hs rfl
/-- What ways hands back. -/
def WayR (w : World) (B : Nat) (nv vd va : Value) (ds : List Nat) (v : Value) (w' : World) : Prop := ∃ bm b1 b2 b3, v = wayV b1 b2 b3 ∧ WayB w' B bm b1 b2 b3 nv vd va ds ∧ w.heap.size ≤ bm
theorem TabW.two {w : World} (h : TabW w) : 2 ≤ w.heap.size := by
  have := block_lt (h 0 (by decide))
  simp at this
  omega
theorem way_k {K : Value → World → Prop} (h12 : ds.length ≤ 12) (hdl : ∀ x, ds.getD x 0 < 4096) (hW : WayB w B bm b1 b2 b3 nv vd va ds) (hs : s < 2 ^ ds.length) (h : ∀ w', Now w' → Sc w w' bm → WyE bm ds w w' → K (natV (wayS ds s)) w') : CallsV Tryd.prog 68 #[natV s, .pointer (some ⟨b1, 0, none⟩), .pointer (some ⟨b2, 0, none⟩), .pointer (some ⟨b3, 0, none⟩)] w K :=
  CallsV.mono (waysCount h12 hdl _ hW hs (Nat.lt_succ_self _)) fun v w' ⟨h1, h2⟩ => h2 ▸ h w' trivial h1.1.sc h1
theorem orderWays {n : Nat} (hn : ds.length = n) (hT : TabW w) (hB : B ≤ w.heap.size) (h2 : 2 ≤ B) (h12 : ds.length ≤ 12) (hd : Sl w B none 1 vd (ds.map natV)) (hvd : vd.oneCell' = true) (hva : va.oneCell' = true) : CallsV Tryd.prog 54 #[.agg #[natV n, vd, va]] w fun v w' => Ext w w' ∧ WayR w B (natV n) vd va ds v w' := by
  subst hn
  have hn : Now w := trivial
  have hx : Ext w w := Ext.refl w
  have hbw : Bl B w w := Bl.refl hB
  have e1 := shlI_nat (k := ds.length) (by omega)
  have hp := two_pow_le h12
  have hpp := Nat.pow_pos (n := ds.length) (show 0 < 2 by decide)
  have hw1 : IntKind.i64.wrap (((2 ^ ds.length : Nat) : Int) - 1) = ((2 ^ ds.length - 1 : Nat) : Int) := by
    rw [show ((2 ^ ds.length : Nat) : Int) - 1 = ((2 ^ ds.length - 1 : Nat) : Int) by omega, wrap_nat (by omega)]
  have hwf := way_wf (s := 2 ^ ds.length - 1) h12 (by omega)
  have hfull := wayS_full h12
  have hT' := fun w' (h : Ext w w') => hT.ext h
  have hD := fun w' (h : Bl B w w') => hd.bl h
  replace hD : Hid _ := hD
  (refine callsV_of Tryd.func54 rfl KR KR ?_; rw [Tryd.results54])
  (repeat' first
    | ((with_reducible refine at_row ?_); refine row1_a fun _ _ _ _ _ _ _ => ?_)
    | with_reducible first | (first | apply alloc_k | apply row_k); intro _ _ _ _ _ _ | (first | apply fork | apply forkp) <;> intro _ | refine forke (fun _ => ?_) fun _ _ => ?_ | refine tail_k fun _ _ _ => ?_ | refine ext_k fun _ _ _ => ?_ | refine need_a ?_ | refine st_agg KR rfl ON fun _ _ _ _ => ?_ | refine wpd_q_a ?_
    | simp (maxDischargeDepth := 3) only [↓X, ↓Y, ↓Q, S1, ↓reduceIte, Nat.reduceEqDiff, Nat.reduceAdd, Int.reduceLT, Int.reduceLE, Int.reduceNeg, Int.reduceBEq, Int.reduceBNe, Int.reduceEq, Nat.reduceLeDiff, Nat.reduceMul, Nat.reduceLT, *]
    | simp (singlePass := true) (maxDischargeDepth := 99) only [*, S2, Nat.reduceLT])
  rename_i b2 w2 n2 k2 s2 q2
  refine mkmap_k .i64 fun bm w5 n5 m5 s5 q5 l5 => ?_
  have hbm : w.heap.size ≤ bm := FR
  (repeat' first
    | ((with_reducible refine at_row ?_); refine row1_a fun _ _ _ _ _ _ _ => ?_)
    | with_reducible first | (first | apply alloc_k | apply row_k); intro _ _ _ _ _ _ | (first | apply fork | apply forkp) <;> intro _ | refine forke (fun _ => ?_) fun _ _ => ?_ | refine tail_k fun _ _ _ => ?_ | refine ext_k fun _ _ _ => ?_ | refine need_a ?_ | refine st_agg KR rfl ON fun _ _ _ _ => ?_ | refine wpd_q_a ?_
    | simp (maxDischargeDepth := 3) only [↓X, ↓Y, ↓Q, S1, ↓reduceIte, Nat.reduceEqDiff, Nat.reduceAdd, Int.reduceLT, Int.reduceLE, Int.reduceNeg, Int.reduceBEq, Int.reduceBNe, Int.reduceEq, Nat.reduceLeDiff, Nat.reduceMul, Nat.reduceLT, *]
    | simp (singlePass := true) (maxDischargeDepth := 99) only [*, S2, Nat.reduceLT])
  refine insert_k (n := ((2 ^ ds.length - 1 : Nat) : Int)) (val := .int .i64 1) rfl rfl rfl m5 int_under way_under hwf fun w6 n6 m6 s6 => ?_
  have hg6 : Gd bm ds w6 := ⟨_, m6, fun p hp => ⟨2 ^ ds.length - 1, by
    simp only [putM, List.map_nil, List.not_mem_nil, if_false, List.nil_append, List.mem_singleton] at hp
    rw [hp, hfull]; rfl, by omega⟩, _, by simp only [putM, List.map_nil, List.not_mem_nil, if_false, List.nil_append, List.mem_singleton]; rfl⟩
  have hG := fun w' (h : WyE bm ds w6 w') => h.2 hg6
  have r6 := WyE.refl bm ds w6
  have x6 := Ext.refl w6
  (repeat' first
    | ((with_reducible refine at_row ?_); refine row1_a fun _ _ _ _ _ _ _ => ?_)
    | with_reducible first | (first | apply alloc_k | apply row_k); intro _ _ _ _ _ _ | (first | apply fork | apply forkp) <;> intro _ | refine forke (fun _ => ?_) fun _ _ => ?_ | refine tail_k fun _ _ _ => ?_ | refine ext_k fun _ _ _ => ?_ | refine need_a ?_ | refine st_agg KR rfl ON fun _ _ _ _ => ?_ | refine wpd_q_a ?_
    | simp (maxDischargeDepth := 3) only [↓X, ↓Y, ↓Q, S1, ↓reduceIte, Nat.reduceEqDiff, Nat.reduceAdd, Int.reduceLT, Int.reduceLE, Int.reduceNeg, Int.reduceBEq, Int.reduceBNe, Int.reduceEq, Nat.reduceLeDiff, Nat.reduceMul, Nat.reduceLT, *]
    | simp (singlePass := true) (maxDischargeDepth := 99) only [*, S2, Nat.reduceLT])
  rename_i b3 w7 n7 k7 s7 q7
  refine st_one KR (by decide) rfl fun w9 n9 k9 s9 => ?_
  (repeat' first
    | ((with_reducible refine at_row ?_); refine row1_a fun _ _ _ _ _ _ _ => ?_)
    | with_reducible first | (first | apply alloc_k | apply row_k); intro _ _ _ _ _ _ | (first | apply fork | apply forkp) <;> intro _ | refine forke (fun _ => ?_) fun _ _ => ?_ | refine tail_k fun _ _ _ => ?_ | refine ext_k fun _ _ _ => ?_ | refine need_a ?_ | refine st_agg KR rfl ON fun _ _ _ _ => ?_ | refine wpd_q_a ?_
    | simp (maxDischargeDepth := 3) only [↓X, ↓Y, ↓Q, S1, ↓reduceIte, Nat.reduceEqDiff, Nat.reduceAdd, Int.reduceLT, Int.reduceLE, Int.reduceNeg, Int.reduceBEq, Int.reduceBNe, Int.reduceEq, Nat.reduceLeDiff, Nat.reduceMul, Nat.reduceLT, *]
    | simp (singlePass := true) (maxDischargeDepth := 99) only [*, S2, Nat.reduceLT])
  rename_i b4 w10 n10 k10 s10 q10
  refine st_one KR (by decide) rfl fun w11 n11 k11 s11 => ?_
  (repeat' first
    | ((with_reducible refine at_row ?_); refine row1_a fun _ _ _ _ _ _ _ => ?_)
    | with_reducible first | (first | apply alloc_k | apply row_k); intro _ _ _ _ _ _ | (first | apply fork | apply forkp) <;> intro _ | refine forke (fun _ => ?_) fun _ _ => ?_ | refine tail_k fun _ _ _ => ?_ | refine ext_k fun _ _ _ => ?_ | refine need_a ?_ | refine st_agg KR rfl ON fun _ _ _ _ => ?_ | refine wpd_q_a ?_
    | simp (maxDischargeDepth := 3) only [↓X, ↓Y, ↓Q, S1, ↓reduceIte, Nat.reduceEqDiff, Nat.reduceAdd, Int.reduceLT, Int.reduceLE, Int.reduceNeg, Int.reduceBEq, Int.reduceBNe, Int.reduceEq, Nat.reduceLeDiff, Nat.reduceMul, Nat.reduceLT, *]
    | simp (singlePass := true) (maxDischargeDepth := 99) only [*, S2, Nat.reduceLT])
  have hx6 : Ext w6 w11 := FR
  exact ⟨bm, b3, b2, b4, rfl, ⟨FR, by omega, k9.2.1 _ FR, k2.2.1 _ FR, k11.2.1 _ FR, hD.out _ FR, hG _ (WyE.of hx6), hT' _ FR, h2⟩, hbm⟩
end
end Go.Proofs.YteeaccnklkcchaaDoor
