
/- The layer order: the iterator of Ideals and the loop over it (the kit's rules for a range over a function, at the wide fence). -/
import Derived.RangeFuncNested
import Derived.RangeFuncBound
import Derived.RangeFuncCalls
import Derived.RangeFuncLeaves
import Derived.RangeFuncBox
import Derived.Shelf.Abstract
import Derived.Shelf.RegionOpen
import Derived.WalkKit
import Derived.OwnWalkIn
import Derived.TacticsInMore
import Derived.LoopNIn
import Derived.LoopIn
import Derived.Maps.AppendAt
import Derived.Test.YteeaccnklkcchaaDoorWays10
namespace Go.Proofs.YteeaccnklkcchaaDoor
set_option linter.unusedSimpArgs false
set_option linter.unusedVariables false
open Go Go.RowKit Go.Shelf
set_option maxRecDepth 100000
set_option linter.unusedSectionVars false
set_option maxHeartbeats 2000000
attribute [local go_sem] Oper.semAt_some
def KpI (n₀ Bs : Nat) (W W' : World) : Prop := Below n₀ W W' ∧ W'.heap[Bs]? = W.heap[Bs]?
theorem KpI.trans {n₀ Bs : Nat} {a b c : World} (h : KpI n₀ Bs a b) (k : KpI n₀ Bs b c) : KpI n₀ Bs a c := ⟨h.1.trans k.1, k.2.trans h.2⟩
def idL (ds : List Nat) (k : Nat) : List Nat := (List.range k).filter (idealD ds)
theorem idL_succ (ds : List Nat) (k : Nat) : idL ds (k + 1) = idL ds k ++ if idealD ds k then [k] else [] := by
  simp only [idL, List.range_succ, List.filter_append, List.filter_cons, List.filter_nil]
theorem idL_le (ds : List Nat) (k : Nat) : (idL ds k).length ≤ k := by
  have := List.length_filter_le (idealD ds) (List.range k)
  simpa [idL] using this
theorem ideals1_in (l Bs n₀ B : Nat) {vd va : Value} {ds : List Nat} (h12 : ds.length ≤ 12) (hdl : ∀ x, ds.getD x 0 < 4096) (hBn : B ≤ n₀) (h2 : 2 ≤ n₀) (J Jx : List Nat → World → Prop)
    (hY : ∀ pre x W, J pre W → pre.length < 4096 → YieldAt Fence.wide (1 - 1) Tryd.prog l #[.int .i64 (x : Nat)] W fun e W' =>
      (e = .returned (.bool true) ∧ J (pre ++ [x]) W' ∧ KpI n₀ Bs W W') ∨ (e = .returned (.bool false) ∧ Jx (pre ++ [x]) W'))
    (W : World) (hJ : AbidesFrom W.heap.size J) (hn₀ : n₀ ≤ W.heap.size) (hB : Blk W Bs 64 [natV ds.length, vd, va]) (hd : Sl W B none 1 vd (ds.map natV)) (hT : TabW W) (h0 : J [] W) :
    CallsIn Fence.wide 1 Tryd.prog 67 #[.func (.yield l) #[] #[], .pointer (some ⟨Bs, 0, none⟩)] W fun e W' => (∃ v, e = .returned v) ∧
      ((∃ ys, ys = idL ds (2 ^ ds.length) ∧ J ys W') ∨ (∃ pre : List Nat, True ∧ Jx pre W')) := by
  have hc0 := hB.cell 0
  have hc1 := hB.cell 1
  have hc2 := hB.cell 2
  simp only [List.getElem?_cons_zero, List.getElem?_cons_succ, natV, intV] at hc0 hc1 hc2
  refine callsIn_of_wp Tryd.func67 rfl trivial ?_ rfl
  simp only [Tryd.ntmps67, List.size_toArray, List.length_cons, List.length_nil, Nat.reduceAdd, Nat.reduceSub, Array.replicate_succ, Array.replicate_zero, List.push_toArray, List.append_toArray, List.nil_append, List.cons_append]
  gi_wp2
  have hp2 := two_pow_le h12
  have hsh : wrap64 ((2 : Int) ^ ds.length) = ((2 ^ ds.length : Nat) : Int) := by
    rw [show (2 : Int) ^ ds.length = ((2 ^ ds.length : Nat) : Int) by norm_cast]
    have h4 : ((2 ^ ds.length : Nat) : Int) ≤ 4096 := by exact_mod_cast hp2
    have h5 : 0 ≤ ((2 ^ ds.length : Nat) : Int) := Int.natCast_nonneg _
    generalize ((2 ^ ds.length : Nat) : Int) = z at *
    unfold wrap64
    omega
  rw [hsh]
  have hidk := fun (k : Nat) (hk : k < 2 ^ ds.length) (wr : World) (h1 : TabW wr) (h2 : B ≤ wr.heap.size) (h3 : Sl wr B none 1 vd (ds.map natV)) => orderIdealP (nv := natV ds.length) (va := va) h1 h2 h3 hdl h12 hk
  generalize hM : 2 ^ ds.length = M at *
  clear hsh
  gi_loopw [7] (fun i wr => ∃ k : Nat, k ≤ M ∧ i = .int .i64 k ∧ J (idL ds k) wr ∧ KpI n₀ Bs W wr ∧ W.heap.size ≤ wr.heap.size)
    (fun i _ => M - (intOf i).toNat)
  case atStart => exact ⟨0, Nat.zero_le _, rfl, h0, ⟨Below.refl _ _, rfl⟩, Nat.le_refl _⟩
  case round =>
    obtain ⟨k, hk, rfl, hJs, hkp, hsz⟩ := hrel
    have hBr : Blk wr Bs 64 [natV ds.length, vd, va] := hkp.2.trans hB
    have hc0 := hBr.cell 0
    have hc1 := hBr.cell 1
    have hc2 := hBr.cell 2
    simp only [List.getElem?_cons_zero, List.getElem?_cons_succ, natV, intV] at hc0 hc1 hc2
    have hdr : Sl wr B none 1 vd (ds.map natV) := hd.below (hkp.1.mono hBn) (Nat.le_refl _)
    have h1n : 1 < n₀ := by omega
    have hTr : TabW wr := fun j hj => (hkp.1.cell (p := ⟨1, j, none⟩) h1n).trans (hT j hj)
    by_cases hlt : k < M
    · have hltI : (k : Int) < (M : Int) := by omega
      have hid := hidk k hlt wr hTr (by omega) hdr
      simp only [natV, intV] at hid
      have hil := idL_le ds k
      cases hv : idealD ds k
      · rw [hv] at hid
        gi_wp2_with (refine ⟨trivial, ?_⟩; gi_at_call 51; refine (callsIn_wide.2 hid).mono ?_; rintro e w2 ⟨v, rfl, rfl, hx2⟩)
        refine ⟨fun _ h => (by cases h), ?_⟩
        gi_wp2
        go_roundw
        case rel => exact ⟨k + 1, by omega, by simp, by rw [idL_succ, hv]; simpa using hJ _ _ _ none hJs ⟨hx2.os, hx2.tape, hx2.output, hx2.size, fun c hc _ => hx2.block c hc⟩ (fun r e => by cases e), hkp.trans ⟨hx2.mono (by omega), hx2.block Bs hBr.lt⟩, Nat.le_trans hsz hx2.size⟩
        case measure => simp [intOf]; omega
      · rw [hv] at hid
        gi_wp2_with (refine ⟨trivial, ?_⟩; gi_at_call 51; refine (callsIn_wide.2 hid).mono ?_; rintro e w2 ⟨v, rfl, rfl, hx2⟩; have hJ2 : J (idL ds k) w2 := hJ _ _ _ none hJs ⟨hx2.os, hx2.tape, hx2.output, hx2.size, fun c hc _ => hx2.block c hc⟩ (fun r e => by cases e); obtain ⟨fn, tmps, assign, body, hy, hR⟩ := hY _ k w2 hJ2 (by omega))
        refine hR.mono ?_
        rintro e W3 (⟨rfl, hJ3, hk3⟩ | ⟨rfl, hJx3⟩)
        · gi_wp2
          go_roundw
          case rel => exact ⟨k + 1, by omega, by simp, by rw [idL_succ, hv]; simpa using hJ3, (hkp.trans ⟨hx2.mono (by omega), hx2.block Bs hBr.lt⟩).trans hk3, Nat.le_trans (Nat.le_trans hsz hx2.size) hk3.1.size⟩
          case measure => simp [intOf]; omega
        · gi_wp2
          refine bodyPost_ret (results_none rfl _ _ _) rfl ?_
          exact ⟨⟨_, rfl⟩, .inr ⟨_, trivial, hJx3⟩⟩
    · obtain rfl : M = k := by omega
      gi_wp2
      go_end0
      exact ⟨⟨_, rfl⟩, .inl ⟨_, by rw [hM], hJs⟩⟩
theorem ideals_stops (Bs n₀ B : Nat) {vd va : Value} {ds : List Nat} {w : World} (h12 : ds.length ≤ 12) (hdl : ∀ x, ds.getD x 0 < 4096) (hBn : B ≤ n₀) (h2 : 2 ≤ n₀) (hn₀ : n₀ ≤ w.heap.size) (hB : Blk w Bs 64 [natV ds.length, vd, va]) (hd : Sl w B none 1 vd (ds.map natV)) (hT : TabW w) :
    SeqStopsK Fence.wide (2 - 1) Tryd.prog 67 #[.pointer (some ⟨Bs, 0, none⟩)] (fun x : Nat => #[Value.int .i64 (x : Nat)]) (KpI n₀ Bs) (fun ys => ys = idL ds (2 ^ ds.length)) (fun _ => True) 4096 w := fun l J Jx W hW hJ hJx hY h0 =>
  ideals1_in l Bs n₀ B h12 hdl hBn h2 J Jx hY W hJ (Nat.le_trans hn₀ hW.size) ((hW.block Bs hB.lt).trans hB) (hd.below (hW.mono (by omega)) (Nat.le_refl _)) (fun j hj => (hW.cell (p := ⟨1, j, none⟩) (show 1 < w.heap.size by omega)).trans (hT j hj)) h0
theorem flat_natC (l : List Nat) : (l.map natC).flatten = l.map natV := by
  induction l with
  | nil => rfl
  | cons a r ih => simp only [List.map_cons, List.flatten_cons, ih]; rfl
theorem own_natC {B : Nat} {w : World} {v : Value} {l : List Nat} (h : w.ownsRow B 3 1 v l.length (l.map natV)) (hs : l.length ≤ 140737488355328) : Own w B 3 1 v (l.map natC) :=
  ⟨by rw [flat_natC, List.length_map]; exact h, fun c hc => by obtain ⟨x, _, rfl⟩ := List.mem_map.1 hc; rfl, by rw [List.length_map]; exact hs⟩
theorem infoInt : (Tryd.prog.info? 3).map (fun i => (i.zero, i.size, i.bytes)) = some (some (.int .i64 0), 1, 8) := by kernel_rfl
theorem up_eq {F : Fence} {n : Nat} {P : Program} {o : Oper} {a : Act} {K : Act → World → Prop} {Q : Exit → Act → World → Prop} {r r' : Result Next} (h : r = r') (k : o.uponIn F n P a K Q r') : o.uponIn F n P a K Q r := h ▸ k
theorem orderIdealsC {w : World} {nv vd va : Value} (h1 : nv.oneCell' = true) (h2 : vd.oneCell' = true) (h3 : va.oneCell' = true) : CallsV Tryd.prog 52 #[.agg #[nv, vd, va]] w fun v w' => Ext w w' ∧ ∃ b, v = .func (.func 67) #[] #[.pointer (some ⟨b, 0, none⟩)] ∧ Blk w' b 64 [nv, vd, va] ∧ w.heap.size ≤ b := by
  have hn : Now w := trivial
  have hx : Ext w w := Ext.refl w
  (refine callsV_of Tryd.func52 rfl KR KR ?_; rw [Tryd.results52])
  (repeat' first
    | ((with_reducible refine at_row ?_); refine row1_a fun _ _ _ _ _ _ _ => ?_)
    | with_reducible first | (first | apply alloc_k | apply row_k); intro _ _ _ _ _ _ | (first | apply fork | apply forkp) <;> intro _ | refine forke (fun _ => ?_) fun _ _ => ?_ | refine tail_k fun _ _ _ => ?_ | refine ext_k fun _ _ _ => ?_ | refine need_a ?_ | refine st_agg KR rfl ON fun _ _ _ _ => ?_ | refine wpd_q_a ?_
    | simp (maxDischargeDepth := 3) only [↓X, ↓Y, ↓Q, S1, ↓reduceIte, Nat.reduceEqDiff, Nat.reduceAdd, Int.reduceLT, Int.reduceLE, Int.reduceNeg, Int.reduceBEq, Int.reduceBNe, Int.reduceEq, Nat.reduceLeDiff, Nat.reduceMul, Nat.reduceLT, *]
    | simp (singlePass := true) (maxDischargeDepth := 99) only [*, S2, Nat.reduceLT])
  rename_i b1 w1 n1 k1 s1 q1
  exact ⟨_, rfl, k1.2.1 _ FR, FR⟩
section
variable {w : World} {B : Nat} {v : Value} {vs : List Value} {after : List (List Int)}
theorem orderIdeals (hT : TabW w) (hB : B ≤ w.heap.size) (hv : LLR w B v vs after) : CallsV Tryd.prog 15 #[v] w fun r w' => Ext w w' ∧ ∃ o, r = .tuple #[o, intV (ofS after).1] ∧ Own w' w.heap.size 3 1 o ((if (ofS after).1 = 0 then idL (ofS after).2.1 (2 ^ after.length) else []).map natC) := by
  have hof := orderOf hT hB hv
  unfold OfR at hof
  have hok := ord_ok (after := after)
  generalize ofS after = S at *
  obtain ⟨e0, ds, al⟩ := S
  simp only [intV] at hof hok ⊢
  by_cases h0 : e0 = 0
  · subst h0
    obtain ⟨h12, _, hdn, _, _, _, _, _, hdl, _⟩ := hok rfl
    clear hok
    simp only [if_true]
    rw [← hdn]
    refine (callsIn_wide (n := 2)).1 ?_
    refine callsIn_of_wp_marks Tryd.func15 rfl trivial ?_ rfl
    simp only [Tryd.ntmps15, List.size_toArray, List.length_cons, List.length_nil, Nat.reduceAdd, Nat.reduceSub, Array.replicate_succ, Array.replicate_zero, List.push_toArray, List.append_toArray, List.nil_append, List.cons_append]
    gi_wp2_with (refine ⟨trivial, ?_⟩; gi_at_call 48; refine (callsIn_wide.2 hof).mono ?_; rintro e w1 ⟨r, rfl, hx1, nv, vd, va, rfl, ⟨o1, o2, o3⟩, hrow⟩; obtain ⟨rfl, hvd, -⟩ := hrow (by trivial); clear hrow)
    refine up_eq (r' := .ok .skip (w1.alloc (.cells #[natV after.length, vd, va] 64))) ?_ ?_
    · simp [go_sem, run_store _ _ _ _ _ o1, run_store _ _ _ _ _ o2, run_store _ _ _ _ _ o3]
    have hT1 := hT.ext hx1
    have h2 := hT1.two
    gi_wp2
    refine ⟨trivial, (callsIn_wide.2 (orderIdealsC o1 o2 o3)).mono ?_⟩
    rintro e w2 ⟨v1, rfl, hx2, Bs, rfl, hBs, hle⟩
    gi_wp2
    have hsz : w1.heap.size + 1 + 1 ≤ w2.heap.size := by have := hx2.size; simp at this; omega
    have hBl : w1.heap.size + 2 ≤ Bs := by simp at hle; omega
    have hBsl := hBs.lt
    have hw21 : Below w1.heap.size w1 w2 := ((Below.refl _ w1).alloc (Nat.le_refl _) _).trans ((((Below.refl _ _).alloc (by simp) _)).trans (hx2.mono (by simp; omega)))
    have bO : Boxed w2 (w1.heap.size + 1) 25 (.slice none 0 0) := by
      have h1 := Boxed.new (w1.alloc (.cells #[natV after.length, vd, va] 64)) 25 (.slice none 0 0)
      rw [World.size_alloc] at h1
      exact (hx2.block _ h1.lt).trans h1
    obtain ⟨i0, hi, hz0, hz1, hz2⟩ := info_parts infoInt
    have hvd2 : Sl w2 w1.heap.size none 1 vd (ds.map natV) := hvd.below hw21 (Nat.le_refl _)
    have hT2 : TabW w2 := fun j hj => (hw21.cell (p := ⟨1, j, none⟩) (show 1 < w1.heap.size by omega)).trans (hT1 j hj)
    have hBs' := hBs
    rw [← hdn] at hBs'
    refine wpIn_rangeFunc_ownG rfl (by omega) (gf := 67) (lb := #[.pointer (some ⟨Bs, 0, none⟩)]) rfl trivial (enters_of Tryd.func67 KR rfl)
      (ideals_stops Bs w1.heap.size w1.heap.size (by omega) hdl (Nat.le_refl _) h2 (by omega) hBs' hvd2 hT2) (fun h k => h.trans k)
      (fun W l o o' hl h hc hw => ⟨belowK_b (w := w2) (by omega) W l o o' hl h hc hw, World.putObj_heap_other (by omega)⟩) (Below.refl _ _) (fun _ => rfl)
      (fun pre W => (∃ v, Boxed W (w1.heap.size + 1) 25 v ∧ W.ownsRow w1.heap.size 3 1 v pre.length (pre.map natV) ∧ True) ∧ (Blk W Bs 64 [natV after.length, vd, va] ∧ Below w1.heap.size w2 W))
      (fun _ _ _ => False)
      (OwnFrom.and (Own.from (holdsRow_own w1.heap.size (w1.heap.size + 1) 25 3 1 (fun pre : List Nat => pre.length) (fun pre => pre.map natV) (fun _ _ => True)) _)
        (OwnFrom.and (Own.from (fun s A B row hs hg hr => (hg.block Bs (Blk.lt hs) (fun e => by obtain ⟨o, h1, h2⟩ := hr Bs e.symm; rw [hs] at h1; cases h1; cases h2)).trans hs) _) (ownFrom_below (by omega) (by omega))))
      (fun _ _ _ _ _ hs _ _ => hs)
      ⟨⟨_, bO, World.ownsRow_nil _ _ _ _, trivial⟩, hBs, Below.refl _ _⟩
      (fun x => { tmps := #[v, undef, .slice none 0 0, .int .i64 0, .pointer (some ⟨w1.heap.size, 0, none⟩), .int .i64 0, .pointer (some ⟨w1.heap.size + 1, 0, none⟩), .int .i64 (x : Nat), .tuple #[.agg #[natV after.length, vd, va], .int .i64 0], v, .tuple #[.agg #[natV after.length, vd, va], .int .i64 0], .agg #[natV after.length, vd, va], .int .i64 0, .int .i64 0, .bool false, undef, .agg #[natV after.length, vd, va], .func (.func 67) #[] #[.pointer (some ⟨Bs, 0, none⟩)], .int .i64 (x : Nat), undef, undef, undef, undef, undef], defers := [] }) ?assign ?body ?done ?stop
    case assign =>
      intro l x W K hK
      gi_wp2
      exact hK
    case body =>
      rintro l pre x W ⟨⟨u, hu, hrow, _⟩, hBW, hB2⟩ hlt
      have hc := hu.cell
      have hsW : w2.heap.size ≤ W.heap.size := hB2.size
      have hml : 4096 ≤ maxLen := by decide
      gi_wp2_with (gi_at_builtin; refine wpListIn_append_own _ rfl _ _ 25 rfl w1.heap.size 3 i0 (.int .i64 0) 1 8 Tryd.underlying25 hi hz0 hz1 hz2 rfl (by decide) _ _ _ rfl (hrow.alloc _) ⟨W.heap.size, 0, none⟩ 1 1 [.int .i64 (x : Nat)] rfl rfl (cell_one_new _ _ _) (by simp [Value.oneCell']) (by omega) (by omega) (by have := hB2.size; simp; omega) ?_; intro v' w1' hown' hgrow _; obtain ⟨g', cap', rfl⟩ := ownsRow_succ hown'; obtain ⟨hv1, hv2, hr2, hk2, hb2⟩ := hu.appended (by decide) hrow (by omega) (by omega) hown' hgrow; have hc1 := hv1.cell; have hf1 := hv1.frozen)
      have hne : some Bs ≠ u.ownBlock := by
        rcases hrow.2 with ⟨rfl, _⟩ | ⟨gg, cap, cur, rfl, _, hgb, _⟩
        · simp [Value.ownBlock]
        · intro e
          obtain rfl : Bs = gg := by simpa [Value.ownBlock] using e
          have := (show W.heap[Bs]? = _ from hBW).symm.trans hgb
          simp at this
      have hBlt : Bs < W.heap.size := hBW.lt
      have hs1 : w1'.heap[Bs]? = W.heap[Bs]? := (hgrow.block Bs (by simp; omega) hne).trans (Below.heap_alloc W _ Bs hBlt)
      have hs2 : (w1'.setCell ⟨w1.heap.size + 1, 0, none⟩ (.slice (some ⟨g', 0, none⟩) (pre.length + 1) cap')).heap[Bs]? = W.heap[Bs]? := ((grownBy_setCell' w1' (w1.heap.size + 1) _).block Bs (by have := hgrow.size; simp at this; omega) (fun e => by have := Option.some.inj e; omega)).trans hs1
      exact ⟨hk2.from _, ⟨hb2, hs2⟩, ⟨_, hv2, by simpa [natV, intV] using hr2, trivial⟩, hs2.trans hBW, hB2.trans hb2⟩
    case done =>
      rintro D ys W hD rfl ⟨⟨u, hu, hrow, _⟩, hBW, hB2⟩ hK
      have hc := hu.cell
      gi_wp2
      refine ⟨by simp, .inl ⟨_, _, rfl, run_takeDeferred hK, ?_⟩⟩
      have hrow' := ownsRow_putObj hrow (.deferred none) hK rfl
      have hB3 : Below w1.heap.size w1 (W.putObj D (.deferred none)) := hw21.trans (hB2.trans (belowK_b (w := w2) (by omega) W D _ _ hD hK rfl rfl))
      have hil := idL_le ds (2 ^ ds.length)
      have hp2 := two_pow_le (k := ds.length) (by omega)
      exact ⟨_, results_tmp2 rfl _ _ _, _, rfl, hx1.trans' (hB3.mono hx1.size), _, rfl, Own.more (own_natC hrow' (by omega)) hx1.size⟩
    case stop =>
      rintro D c pre W _ _ h _
      exact h.elim
  · simp only [if_neg h0]
    clear hok
    refine (callsIn_wide (n := 2)).1 ?_
    refine callsIn_of_wp_marks Tryd.func15 rfl trivial ?_ rfl
    simp only [Tryd.ntmps15, List.size_toArray, List.length_cons, List.length_nil, Nat.reduceAdd, Nat.reduceSub, Array.replicate_succ, Array.replicate_zero, List.push_toArray, List.append_toArray, List.nil_append, List.cons_append]
    gi_wp2_with (refine ⟨trivial, ?_⟩; gi_at_call 48; refine (callsIn_wide.2 hof).mono ?_; rintro e w1 ⟨r, rfl, hx1, nv, vd, va, rfl, ⟨o1, o2, o3⟩, hrow⟩)
    refine up_eq (r' := .ok .skip (w1.alloc (.cells #[nv, vd, va] 64))) ?_ ?_
    · simp [go_sem, run_store _ _ _ _ _ o1, run_store _ _ _ _ _ o2, run_store _ _ _ _ _ o3]
    gi_wp2
    exact ⟨_, results_tmp2 rfl _ _ _, _, rfl, hx1.trans (Ext.alloc w1 _), _, rfl, Own.nil _ _ _ _⟩
end
end Go.Proofs.YteeaccnklkcchaaDoor
