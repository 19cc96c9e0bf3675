
/- The statements on layer 10: made, walked. -/
import Derived.Test.YteeaccnklkcchaaDoorMade10
namespace Go.Proofs.YteeaccnklkcchaaDoor
set_option linter.unusedSimpArgs false
set_option linter.unusedVariables false
open Go Go.RowKit
set_option maxRecDepth 100000
set_option linter.unusedSectionVars false
set_option maxHeartbeats 4000000
def u8V (n : Int) : Value := .int .u8 n
section
variable {w : World} {B : Nat} {tv : Value} {turn : List Int}
theorem law10made {n p : Int} (hn0 : 0 ≤ n ∧ n ≤ 255) (hB : B ≤ w.heap.size) (ht : Sl w B none 1 tv (turn.map u8V)) (hu : ∀ x ∈ turn, 0 ≤ x ∧ x ≤ 255) : CallsV Tryd.prog 42 #[.int .u8 n, tv, .int .u64 p] w fun r w' => Ext w w' ∧ ∃ us A, LLR w' w'.heap.size r us A ∧ A.length ≤ 9 ∧ (ofS A).1 = 0 := by
  have hn : Now w := trivial
  have hx : Ext w w := Ext.refl w
  have hbw : Bl B w w := Bl.refl hB
  have KT := ht.k hB
  have htm := ht.max_
  have hTB := fun w' (h : Bl B w w') => (ht.bl h).k (Nat.le_trans hB h.2.size)
  replace hTB : Hid _ := hTB
  replace hu : Hid _ := hu
  obtain ⟨nn, rfl⟩ : ∃ nn : Nat, n = nn := ⟨n.toNat, by omega⟩
  have hcv : (IntKind.i64.wrap (nn : Int)).tmod 10 = ((nn % 10 : Nat) : Int) := by
    rw [wrap_i64_id] <;> first | omega | rfl
  have hk9 : nn % 10 ≤ 9 := by omega
  generalize nn % 10 = k at *
  clear ht
  (refine callsV_of Tryd.func42 rfl KR KR ?_; rw [Tryd.results42])
  (repeat' first
    | ((with_reducible refine at_row ?_); refine row1_a fun _ _ _ _ _ _ _ => ?_)
    | with_reducible first | (first | apply alloc_k | apply row_k); intro _ _ _ _ _ _ | (first | apply fork | apply forkp) <;> intro _ | refine forke (fun _ => ?_) fun _ _ => ?_ | refine tail_k fun _ _ _ => ?_ | refine ext_k fun _ _ _ => ?_ | refine need_a ?_ | refine st_agg KR rfl ON fun _ _ _ _ => ?_ | refine wpd_q_a ?_
    | simp (maxDischargeDepth := 3) only [↓X, ↓Y, ↓Q, S1, ↓reduceIte, Nat.reduceEqDiff, Nat.reduceAdd, Int.reduceLT, Int.reduceLE, Int.reduceNeg, Int.reduceBEq, Int.reduceBNe, Int.reduceEq, Nat.reduceLeDiff, Nat.reduceMul, Nat.reduceLT, *, hcv]
    | simp (singlePass := true) (maxDischargeDepth := 99) only [*, S2, Nat.reduceLT, hcv])
  refine loop_o k (fun w0 g0 i g w' => g 21 = .int .i64 i ∧ (g 1 = g0 1 ∧ g 2 = g0 2 ∧ g 7 = g0 7 ∧ g 20 = g0 20) ∧ ∃ o, g 8 = o ∧ Own w' w0.heap.size 3 1 o ((List.range i).map natC)) KR (by omega) ?_ ?_ ?_
  · (repeat' first
    | ((with_reducible refine at_row ?_); refine row1_a fun _ _ _ _ _ _ _ => ?_)
    | with_reducible first | (first | apply alloc_k | apply row_k); intro _ _ _ _ _ _ | (first | apply fork | apply forkp) <;> intro _ | refine forke (fun _ => ?_) fun _ _ => ?_ | refine tail_k fun _ _ _ => ?_ | refine ext_k fun _ _ _ => ?_ | refine need_a ?_ | refine st_agg KR rfl ON fun _ _ _ _ => ?_ | refine wpd_q_a ?_
    | simp (maxDischargeDepth := 3) only [↓X, ↓Y, ↓Q, S1, ↓reduceIte, Nat.reduceEqDiff, Nat.reduceAdd, Int.reduceLT, Int.reduceLE, Int.reduceNeg, Int.reduceBEq, Int.reduceBNe, Int.reduceEq, Nat.reduceLeDiff, Nat.reduceMul, Nat.reduceLT, *, hcv]
    | simp (singlePass := true) (maxDischargeDepth := 99) only [*, S2, Nat.reduceLT, hcv])
    exact ⟨_, rfl, Own.nil _ _ _ _⟩
  · rintro i m g wk hk hlt nk sk bk hw ⟨hi, hf, o, ho8, hown⟩
    simp (maxDischargeDepth := 3) only [U, ↓reduceIte, Nat.reduceEqDiff, *] at hf
    have bw : Bl wk.heap.size wk wk := Bl.refl (Nat.le_refl _)
    have O := hown.o
    have hll : (List.range i).length < 1000000000000 := by rw [List.length_range]; omega
    clear hown
    (repeat' first
    | ((with_reducible refine at_row ?_); refine row1_a fun _ _ _ _ _ _ _ => ?_)
    | with_reducible first | (first | apply alloc_k | apply row_k); intro _ _ _ _ _ _ | (first | apply fork | apply forkp) <;> intro _ | refine forke (fun _ => ?_) fun _ _ => ?_ | refine tail_k fun _ _ _ => ?_ | refine ext_k fun _ _ _ => ?_ | refine need_a ?_ | refine st_agg KR rfl ON fun _ _ _ _ => ?_ | refine wpd_q_a ?_
    | simp (maxDischargeDepth := 3) only [↓X, ↓Y, ↓Q, S1, ↓reduceIte, Nat.reduceEqDiff, Nat.reduceAdd, Int.reduceLT, Int.reduceLE, Int.reduceNeg, Int.reduceBEq, Int.reduceBNe, Int.reduceEq, Nat.reduceLeDiff, Nat.reduceMul, Nat.reduceLT, *]
    | simp (singlePass := true) (maxDischargeDepth := 99) only [*, S2, Nat.reduceLT])
    rename_i b10 w10 n10 k10 s10 q10 l10
    refine appN i (O.1 _ FR) (k10.2.1 _ FR) hll FR fun v' w9 n9 s9 hown9 => ?_
    have hO9 : Hid _ := hown9
    clear hown9
    (repeat' first
    | ((with_reducible refine at_row ?_); refine row1_a fun _ _ _ _ _ _ _ => ?_)
    | with_reducible first | (first | apply alloc_k | apply row_k); intro _ _ _ _ _ _ | (first | apply fork | apply forkp) <;> intro _ | refine forke (fun _ => ?_) fun _ _ => ?_ | refine tail_k fun _ _ _ => ?_ | refine ext_k fun _ _ _ => ?_ | refine need_a ?_ | refine st_agg KR rfl ON fun _ _ _ _ => ?_ | refine wpd_q_a ?_
    | simp (maxDischargeDepth := 3) only [↓X, ↓Y, ↓Q, S1, ↓reduceIte, Nat.reduceEqDiff, Nat.reduceAdd, Int.reduceLT, Int.reduceLE, Int.reduceNeg, Int.reduceBEq, Int.reduceBNe, Int.reduceEq, Nat.reduceLeDiff, Nat.reduceMul, Nat.reduceLT, *]
    | simp (singlePass := true) (maxDischargeDepth := 99) only [*, S2, Nat.reduceLT])
    refine next_k hk hlt ?_ FR
    (repeat' first
    | ((with_reducible refine at_row ?_); refine row1_a fun _ _ _ _ _ _ _ => ?_)
    | with_reducible first | (first | apply alloc_k | apply row_k); intro _ _ _ _ _ _ | (first | apply fork | apply forkp) <;> intro _ | refine forke (fun _ => ?_) fun _ _ => ?_ | refine tail_k fun _ _ _ => ?_ | refine ext_k fun _ _ _ => ?_ | refine need_a ?_ | refine st_agg KR rfl ON fun _ _ _ _ => ?_ | refine wpd_q_a ?_
    | simp (maxDischargeDepth := 3) only [↓X, ↓Y, ↓Q, S1, ↓reduceIte, Nat.reduceEqDiff, Nat.reduceAdd, Int.reduceLT, Int.reduceLE, Int.reduceNeg, Int.reduceBEq, Int.reduceBNe, Int.reduceEq, Nat.reduceLeDiff, Nat.reduceMul, Nat.reduceLT, *]
    | simp (singlePass := true) (maxDischargeDepth := 99) only [*, S2, Nat.reduceLT])
    refine ⟨_, rfl, ?_⟩
    rw [List.range_succ]
    exact hO9.out
  · rintro g w1 n1 s1 bk ⟨hi, hf, nv, ho8, hown⟩
    simp (maxDischargeDepth := 3) only [U, ↓reduceIte, Nat.reduceEqDiff, *] at hf
    have hx1 : Ext w w1 := FR
    have one1 := hown.one
    have hlen1 : lenN nv = k := by
      have := (hown.sl1 (f := natV)).len
      rw [List.length_map, List.length_range] at this
      exact this
    have hsl1 : SlWf nv ∧ isSl nv := ⟨(hown.sl1 (f := natV)).wf, (hown.sl1 (f := natV)).sl⟩
    have I0 : Hid (Ext w w1 ∧ ∃ nm : List Nat, Own w1 w.heap.size 3 1 nv (nm.map natC) ∧ NM k nm) := ⟨hx1, _, hown, NM.start k⟩
    have hni : ¬ ((k : Int) < (k : Int)) := by omega
    clear hown
    (repeat' first
    | ((with_reducible refine at_row ?_); refine row1_a fun _ _ _ _ _ _ _ => ?_)
    | with_reducible first | (first | apply alloc_k | apply row_k); intro _ _ _ _ _ _ | (first | apply fork | apply forkp) <;> intro _ | refine forke (fun _ => ?_) fun _ _ => ?_ | refine tail_k fun _ _ _ => ?_ | refine ext_k fun _ _ _ => ?_ | refine need_a ?_ | refine st_agg KR rfl ON fun _ _ _ _ => ?_ | refine wpd_q_a ?_
    | simp (maxDischargeDepth := 3) only [↓X, ↓Y, ↓Q, S1, ↓reduceIte, Nat.reduceEqDiff, Nat.reduceAdd, Int.reduceLT, Int.reduceLE, Int.reduceNeg, Int.reduceBEq, Int.reduceBNe, Int.reduceEq, Nat.reduceLeDiff, Nat.reduceMul, Nat.reduceLT, *]
    | simp (singlePass := true) (maxDischargeDepth := 99) only [*, S2, Nat.reduceLT])
    refine loop_g k (fun g0 i g w' => g 31 = .int .i64 i ∧ (g 1 = g0 1 ∧ g 2 = g0 2 ∧ g 7 = g0 7 ∧ g 8 = g0 8 ∧ g 30 = g0 30) ∧ Hid (Ext w w' ∧ ∃ nm : List Nat, Own w' w.heap.size 3 1 nv (nm.map natC) ∧ NM k nm)) KR ?_ ?_ ?_
    · (repeat' first
    | ((with_reducible refine at_row ?_); refine row1_a fun _ _ _ _ _ _ _ => ?_)
    | with_reducible first | (first | apply alloc_k | apply row_k); intro _ _ _ _ _ _ | (first | apply fork | apply forkp) <;> intro _ | refine forke (fun _ => ?_) fun _ _ => ?_ | refine tail_k fun _ _ _ => ?_ | refine ext_k fun _ _ _ => ?_ | refine need_a ?_ | refine st_agg KR rfl ON fun _ _ _ _ => ?_ | refine wpd_q_a ?_
    | simp (maxDischargeDepth := 3) only [↓X, ↓Y, ↓Q, S1, ↓reduceIte, Nat.reduceEqDiff, Nat.reduceAdd, Int.reduceLT, Int.reduceLE, Int.reduceNeg, Int.reduceBEq, Int.reduceBNe, Int.reduceEq, Nat.reduceLeDiff, Nat.reduceMul, Nat.reduceLT, *]
    | simp (singlePass := true) (maxDischargeDepth := 99) only [*, S2, Nat.reduceLT])
      all_goals first | exact I0.out | exact ⟨rfl, I0.out⟩ | exact I0.out.2
    · rintro i m g2 wk hk hlt nk ⟨hi2, hf2, hp⟩
      simp (maxDischargeDepth := 3) only [U, ↓reduceIte, Nat.reduceEqDiff, *] at hf2
      obtain ⟨hx2, nm, hown, hN⟩ := hp.out
      have hw : IntKind.i64.wrap ((i : Int) + 1) = ((i + 1 : Nat) : Int) := by rw [wrap_i64_id] <;> omega
      have hiI : ((i : Int) < (k : Int)) := by omega
      have s2 := hx2.st
      have rk := Ext.refl wk
      by_cases hit : i < turn.length
      · have hitI : ((i : Int) < (turn.length : Int)) := by omega
        have hb2 : Bl B w wk := FR
        have KT2 := hTB.out wk hb2
        obtain ⟨u1, u2⟩ := hu.out _ (List.getElem_mem hit)
        obtain ⟨tm, htm⟩ : ∃ tm : Nat, turn[i] = tm := ⟨turn[i].toNat, by omega⟩
        have e1 : IntKind.i64.wrap (tm : Int) = (tm : Int) := by rw [wrap_i64_id] <;> omega
        have e2 : IntKind.i64.wrap ((k : Int) - (i : Int)) = ((k - i : Nat) : Int) := by rw [wrap_i64_id] <;> omega
        have e3 : ((tm : Int).tmod ((k - i : Nat) : Int)) = ((tm % (k - i) : Nat) : Int) := rfl
        have hmd : tm % (k - i) < k - i := Nat.mod_lt _ (by omega)
        have e4 : IntKind.i64.wrap ((i : Int) + ((tm % (k - i) : Nat) : Int)) = ((i + tm % (k - i) : Nat) : Int) := by rw [wrap_i64_id] <;> omega
        have hki0 : ¬ (((k - i : Nat) : Int) = 0) := by omega
        have hjk : i + tm % (k - i) < k := by omega
        generalize hj : i + tm % (k - i) = j at *
        generalize tm % (k - i) = md at *
        have hnl := hN.len
        have hin : i < nm.length := by omega
        have hjn : j < nm.length := by omega
        have KN := (hown.sl1 (f := natV)).v (Nat.le_refl _)
        have hown' : Hid _ := hown
        clear hown hp
        obtain ⟨gg, hgv, hgb, hgl, hgw⟩ : ∃ gg, nv.ownBlock = some gg ∧ blockOf nv = some gg ∧ gg < wk.heap.size ∧ w.heap.size ≤ gg := by
          rcases hown'.out.1.2 with ⟨rfl, h0⟩ | ⟨g, cap, cur, rfl, hb, hg, _⟩
          · rw [List.length_map] at h0; omega
          · exact ⟨g, rfl, rfl, (Array.getElem?_eq_some_iff.1 hg).1, hb⟩
        have hld : ∀ q (hq : q < nm.length), ∀ w', Kp gg wk w' → rdv none w' (elemAt nv 1 q) = some (.int .i64 (nm[q] : Nat)) := fun q hq w' hk => by
          have h1 := ((hown'.out.sl1 (f := natV)).vp (w' := w') fun b hb _ => by
            obtain rfl := Option.some.inj (hgb.symm.trans hb)
            exact hk).rd q (by rw [List.length_map]; exact hq)
          rw [h1, List.getElem_map]
          rfl
        have hldi := hld i hin
        have hldj := hld j hjn
        clear hld
        (repeat' first
    | ((with_reducible refine wpd_at 13 ?_); refine wpd_hold ?_)
    | ((with_reducible refine at_row ?_); refine row1_a fun _ _ _ _ _ _ _ => ?_)
    | with_reducible first | (first | apply alloc_k | apply row_k); intro _ _ _ _ _ _ | (first | apply fork | apply forkp) <;> intro _ | refine forke (fun _ => ?_) fun _ _ => ?_ | refine tail_k fun _ _ _ => ?_ | refine ext_k fun _ _ _ => ?_ | refine need_a ?_ | refine st_agg KR rfl ON fun _ _ _ _ => ?_ | refine wpd_q_a ?_
    | simp (maxDischargeDepth := 3) only [↓X, ↓Y, ↓Q, S1, ↓reduceIte, Nat.reduceEqDiff, Nat.reduceAdd, Int.reduceLT, Int.reduceLE, Int.reduceNeg, Int.reduceBEq, Int.reduceBNe, Int.reduceEq, Nat.reduceLeDiff, Nat.reduceMul, Nat.reduceLT, *, htm, e1, e2, e3, e4, u8V]
    | simp (singlePass := true) (maxDischargeDepth := 99) only [*, S2, Nat.reduceLT, htm, e1, e2, e3, e4, u8V])
        have hRB : ∀ b ∈ [gg], b < wk.heap.size := by simp only [List.mem_cons, List.not_mem_nil, or_false, forall_eq_or_imp, forall_eq]; exact FR
        unfold wpdH
        refine wpd_relL 14 [gg] [(13, gg)] rfl (fun iI v w9 => match iI with
          | 0 => v = nv
          | 1 => v = .int .i64 (i : Nat)
          | 2 => v = nv
          | 3 => v = .int .i64 (j : Nat)
          | 4 => v = nv
          | 5 => v = .int .i64 (j : Nat)
          | 6 => v = elemAt nv 1 j
          | 7 => v = .int .i64 (nm[j] : Nat)
          | 8 => v = nv
          | 9 => v = .int .i64 (i : Nat)
          | 10 => v = elemAt nv 1 i
          | 11 => v = .int .i64 (nm[i] : Nat)
          | 12 => v = elemAt nv 1 i
          | 13 => Own w9 w.heap.size 3 1 nv ((nm.set i nm[j]).map natC)
          | _ => False) KR KR KR hRB (by simp only [List.nodup_cons, List.mem_cons, List.not_mem_nil, or_false, not_or, List.nodup_nil, not_false_eq_true, and_true] <;> exact FR) ?_ ?_ ?_
        · intro iI v w1 w2 hR hx9
          match iI, hR with
          | 0, h => exact h
          | 1, h => exact h
          | 2, h => exact h
          | 3, h => exact h
          | 4, h => exact h
          | 5, h => exact h
          | 6, h => exact h
          | 7, h => exact h
          | 8, h => exact h
          | 9, h => exact h
          | 10, h => exact h
          | 11, h => exact h
          | 12, h => exact h
          | 13, h => exact Own.tbg h hx9 (fun b hb hX => by obtain rfl := Option.some.inj (hgv.symm.trans hb); exact hX.2 rfl)
        · intro iI oO hi ho gF w9 hx9 hdep hag hun
          have s9 := hx9.sb
          simp only [Sb, List.mem_cons, List.not_mem_nil, or_false, forall_eq_or_imp, forall_eq] at s9
          have n9 : Now w9 := trivial
          have r9 := Ext.refl w9
          have z9 := hx9.size
          rcases iI with _|_|_|_|_|_|_|_|_|_|_|_|_|_|iI
          have e := Option.some.inj ho
          subst e
          have a8 := hag.at 8 KR
          simp only [S5, ↓reduceIte, Nat.reduceEqDiff, initF, *] at a8
          have un13 : Kp gg wk w9 := ⟨hRB _ (by simp), hun 13 _ (by decide) rfl KR⟩
          clear hag hdep ho hun
          refine ⟨fun _ => ?_, fun b hb => by simp [bkL] at hb⟩
          refine relStep_off rfl ?_
          rotate_left
          have e := Option.some.inj ho
          subst e
          have a10 := hag.at 10 KR
          simp only [S5, ↓reduceIte, Nat.reduceEqDiff, initF, *] at a10
          have un13 : Kp gg wk w9 := ⟨hRB _ (by simp), hun 13 _ (by decide) rfl KR⟩
          clear hag hdep ho hun
          refine ⟨fun _ => ?_, fun b hb => by simp [bkL] at hb⟩
          refine relStep_off rfl ?_
          rotate_left
          have e := Option.some.inj ho
          subst e
          have a8 := hag.at 8 KR
          simp only [S5, ↓reduceIte, Nat.reduceEqDiff, initF, *] at a8
          clear hag hdep ho hun
          refine ⟨fun _ => ?_, fun b hb => by simp [bkL] at hb⟩
          refine relStep_off rfl ?_
          rotate_left
          have e := Option.some.inj ho
          subst e
          have a11 := hag.at 11 KR
          simp only [S5, ↓reduceIte, Nat.reduceEqDiff, initF, *] at a11
          clear hag hdep ho hun
          refine ⟨fun _ => ?_, fun b hb => by simp [bkL] at hb⟩
          refine relStep_off rfl ?_
          rotate_left
          have e := Option.some.inj ho
          subst e
          have a8 := hag.at 8 KR
          simp only [S5, ↓reduceIte, Nat.reduceEqDiff, initF, *] at a8
          have un13 : Kp gg wk w9 := ⟨hRB _ (by simp), hun 13 _ (by decide) rfl KR⟩
          clear hag hdep ho hun
          refine ⟨fun _ => ?_, fun b hb => by simp [bkL] at hb⟩
          refine relStep_off rfl ?_
          rotate_left
          have e := Option.some.inj ho
          subst e
          have a11 := hag.at 11 KR
          simp only [S5, ↓reduceIte, Nat.reduceEqDiff, initF, *] at a11
          have un13 : Kp gg wk w9 := ⟨hRB _ (by simp), hun 13 _ (by decide) rfl KR⟩
          clear hag hdep ho hun
          refine ⟨fun _ => ?_, fun b hb => by simp [bkL] at hb⟩
          refine relStep_off rfl ?_
          rotate_left
          have e := Option.some.inj ho
          subst e
          have d4 : (gF 53) = nv := hdep ⟨4, .data⟩ (by simp) rfl _ _ rfl rfl
          have d5 : (gF 54) = .int .i64 (j : Nat) := hdep ⟨5, .data⟩ (by simp) rfl _ _ rfl rfl
          have un13 : Kp gg wk w9 := ⟨hRB _ (by simp), hun 13 _ (by decide) rfl KR⟩
          clear hag hdep ho hun
          refine ⟨fun _ => ?_, fun b hb => by simp [bkL] at hb⟩
          refine relStep_off rfl ?_
          rotate_left
          have e := Option.some.inj ho
          subst e
          have d6 : (gF 55) = elemAt nv 1 j := hdep ⟨6, .data⟩ (by simp) rfl _ _ rfl rfl
          have un13 : Kp gg wk w9 := ⟨hRB _ (by simp), hun 13 _ (by decide) rfl KR⟩
          clear hag hdep ho hun
          refine ⟨fun _ => ?_, fun b hb => by simp [bkL] at hb⟩
          refine relStep_off rfl ?_
          rotate_left
          have e := Option.some.inj ho
          subst e
          have a8 := hag.at 8 KR
          simp only [S5, ↓reduceIte, Nat.reduceEqDiff, initF, *] at a8
          clear hag hdep ho hun
          refine ⟨fun _ => ?_, fun b hb => by simp [bkL] at hb⟩
          refine relStep_off rfl ?_
          rotate_left
          have e := Option.some.inj ho
          subst e
          have a10 := hag.at 10 KR
          simp only [S5, ↓reduceIte, Nat.reduceEqDiff, initF, *] at a10
          clear hag hdep ho hun
          refine ⟨fun _ => ?_, fun b hb => by simp [bkL] at hb⟩
          refine relStep_off rfl ?_
          rotate_left
          have e := Option.some.inj ho
          subst e
          have d8 : (gF 57) = nv := hdep ⟨8, .data⟩ (by simp) rfl _ _ rfl rfl
          have d9 : (gF 58) = .int .i64 (i : Nat) := hdep ⟨9, .data⟩ (by simp) rfl _ _ rfl rfl
          clear hag hdep ho hun
          refine ⟨fun _ => ?_, fun b hb => by simp [bkL] at hb⟩
          refine relStep_off rfl ?_
          rotate_left
          have e := Option.some.inj ho
          subst e
          have d10 : (gF 59) = elemAt nv 1 i := hdep ⟨10, .data⟩ (by simp) rfl _ _ rfl rfl
          have un13 : Kp gg wk w9 := ⟨hRB _ (by simp), hun 13 _ (by decide) rfl KR⟩
          clear hag hdep ho hun
          refine ⟨fun _ => ?_, fun b hb => by simp [bkL] at hb⟩
          refine relStep_off rfl ?_
          rotate_left
          have e := Option.some.inj ho
          subst e
          have d0 : (gF 49) = nv := hdep ⟨0, .data⟩ (by simp) rfl _ _ rfl rfl
          have d1 : (gF 50) = .int .i64 (i : Nat) := hdep ⟨1, .data⟩ (by simp) rfl _ _ rfl rfl
          have un13 : Kp gg wk w9 := ⟨hRB _ (by simp), hun 13 _ (by decide) rfl KR⟩
          clear hag hdep ho hun
          refine ⟨fun _ => ?_, fun b hb => by simp [bkL] at hb⟩
          refine relStep_off rfl ?_
          rotate_left
          have e := Option.some.inj ho
          subst e
          have d7 : (gF 56) = .int .i64 (nm[j] : Nat) := hdep ⟨7, .data⟩ (by simp) rfl _ _ rfl rfl
          have d12 : (gF 61) = elemAt nv 1 i := hdep ⟨12, .data⟩ (by simp) rfl _ _ rfl rfl
          clear hag hdep ho hun
          refine ⟨fun h => by simp [bkL] at h, fun b hb hU => ?_⟩
          obtain rfl : gg = b := by simpa [bkL] using hb
          refine relStep_off rfl ?_
          rotate_left
          · omega
          all_goals (repeat' first
    | ((with_reducible refine at_row ?_); refine row1_a fun _ _ _ _ _ _ _ => ?_)
    | with_reducible first | (first | apply alloc_k | apply row_k); intro _ _ _ _ _ _ | (first | apply fork | apply forkp) <;> intro _ | refine forke (fun _ => ?_) fun _ _ => ?_ | refine tail_k fun _ _ _ => ?_ | refine ext_k fun _ _ _ => ?_ | refine need_a ?_ | refine st_agg KR rfl ON fun _ _ _ _ => ?_ | refine wpd_q_a ?_
    | simp (maxDischargeDepth := 3) only [↓X, ↓Y, ↓Q, S1, ↓reduceIte, Nat.reduceEqDiff, Nat.reduceAdd, Int.reduceLT, Int.reduceLE, Int.reduceNeg, Int.reduceBEq, Int.reduceBNe, Int.reduceEq, Nat.reduceLeDiff, Nat.reduceMul, Nat.reduceLT, *]
    | simp (singlePass := true) (maxDischargeDepth := 99) only [*, S2, Nat.reduceLT])
          all_goals first
            | (refine own_setE (i := i) KR (hown'.out.keep fun b hb => by obtain rfl := Option.some.inj (hgv.symm.trans hb); exact hU) (by simpa using hin) rfl fun b' w10 n10 e10 hb10 hl10 hown10 s10 c10 => ?_; obtain rfl := Option.some.inj (hgb.symm.trans e10); exact ⟨c10, (show Own w10 w.heap.size 3 1 nv ((nm.set i nm[j]).map natC) from by rw [List.map_set]; exact hown10)⟩)
        · intro g9 w9 hx9 hR hS9 hag
          have s9 := hx9.sb
          simp only [Sb, List.mem_cons, List.not_mem_nil, or_false, forall_eq_or_imp, forall_eq] at s9
          have n9 : Now w9 := trivial
          have r9 := Ext.refl w9
          have z9 := hx9.size
          have d2 : (g9 51) = nv := hR 2 _ _ (by decide) rfl rfl
          have d3 : (g9 52) = .int .i64 (j : Nat) := hR 3 _ _ (by decide) rfl rfl
          have d11 : (g9 60) = .int .i64 (nm[i] : Nat) := hR 11 _ _ (by decide) rfl rfl
          obtain ⟨vs13, d13⟩ := hS9 13 _ (by decide) rfl
          replace d13 : Own w9 w.heap.size 3 1 nv ((nm.set i nm[j]).map natC) := d13
          have a1 := hag.at 1 KR
          have a2 := hag.at 2 KR
          have a7 := hag.at 7 KR
          have a8 := hag.at 8 KR
          have a30 := hag.at 30 KR
          have a31 := hag.at 31 KR
          simp only [S5, ↓reduceIte, Nat.reduceEqDiff, initF, *] at a1 a2 a7 a8 a30 a31
          clear hag hR hS9
          simp only [List.drop_succ_cons, List.drop_zero]
          (repeat' first
    | ((with_reducible refine at_row ?_); refine row1_a fun _ _ _ _ _ _ _ => ?_)
    | with_reducible first | (first | apply alloc_k | apply row_k); intro _ _ _ _ _ _ | (first | apply fork | apply forkp) <;> intro _ | refine forke (fun _ => ?_) fun _ _ => ?_ | refine tail_k fun _ _ _ => ?_ | refine ext_k fun _ _ _ => ?_ | refine need_a ?_ | refine st_agg KR rfl ON fun _ _ _ _ => ?_ | refine wpd_q_a ?_
    | simp (maxDischargeDepth := 3) only [↓X, ↓Y, ↓Q, S1, ↓reduceIte, Nat.reduceEqDiff, Nat.reduceAdd, Int.reduceLT, Int.reduceLE, Int.reduceNeg, Int.reduceBEq, Int.reduceBNe, Int.reduceEq, Nat.reduceLeDiff, Nat.reduceMul, Nat.reduceLT, *]
    | simp (singlePass := true) (maxDischargeDepth := 99) only [*, S2, Nat.reduceLT])
          refine own_setE (i := j) KR d13 (by simpa using hjn) rfl fun b' w8 n8 e8 hb8 hl8 hown8 s8 c8 => ?_
          obtain rfl := Option.some.inj (hgb.symm.trans e8)
          have F8 : Hid (Ext w w8 ∧ ∃ nm : List Nat, Own w8 w.heap.size 3 1 nv (nm.map natC) ∧ NM k nm) := by
            refine ⟨?_, (nm.set i nm[j]).set j nm[i], ?_, hN.swap hin hjn⟩
            · have h1 : Bl w.heap.size wk wk := Bl.refl hx2.size
              have h2 : Bl w.heap.size wk w8 := FR
              exact hx2.trans' h2.2
            · rw [List.map_set]
              exact hown8
          clear hown8 d13
          (repeat' first
    | ((with_reducible refine at_row ?_); refine row1_a fun _ _ _ _ _ _ _ => ?_)
    | with_reducible first | (first | apply alloc_k | apply row_k); intro _ _ _ _ _ _ | (first | apply fork | apply forkp) <;> intro _ | refine forke (fun _ => ?_) fun _ _ => ?_ | refine tail_k fun _ _ _ => ?_ | refine ext_k fun _ _ _ => ?_ | refine need_a ?_ | refine st_agg KR rfl ON fun _ _ _ _ => ?_ | refine wpd_q_a ?_
    | simp (maxDischargeDepth := 3) only [↓X, ↓Y, ↓Q, S1, ↓reduceIte, Nat.reduceEqDiff, Nat.reduceAdd, Int.reduceLT, Int.reduceLE, Int.reduceNeg, Int.reduceBEq, Int.reduceBNe, Int.reduceEq, Nat.reduceLeDiff, Nat.reduceMul, Nat.reduceLT, *]
    | simp (singlePass := true) (maxDischargeDepth := 99) only [*, S2, Nat.reduceLT])
          refine next_g hk hlt ?_
          (repeat' first
    | ((with_reducible refine at_row ?_); refine row1_a fun _ _ _ _ _ _ _ => ?_)
    | with_reducible first | (first | apply alloc_k | apply row_k); intro _ _ _ _ _ _ | (first | apply fork | apply forkp) <;> intro _ | refine forke (fun _ => ?_) fun _ _ => ?_ | refine tail_k fun _ _ _ => ?_ | refine ext_k fun _ _ _ => ?_ | refine need_a ?_ | refine st_agg KR rfl ON fun _ _ _ _ => ?_ | refine wpd_q_a ?_
    | simp (maxDischargeDepth := 3) only [↓X, ↓Y, ↓Q, S1, ↓reduceIte, Nat.reduceEqDiff, Nat.reduceAdd, Int.reduceLT, Int.reduceLE, Int.reduceNeg, Int.reduceBEq, Int.reduceBNe, Int.reduceEq, Nat.reduceLeDiff, Nat.reduceMul, Nat.reduceLT, *]
    | simp (singlePass := true) (maxDischargeDepth := 99) only [*, S2, Nat.reduceLT])
          all_goals first | exact F8.out | exact F8.out.2
      · have hitI : ¬ ((i : Int) < (turn.length : Int)) := by omega
        have hI : Hid (Ext w wk ∧ ∃ nm : List Nat, Own wk w.heap.size 3 1 nv (nm.map natC) ∧ NM k nm) := hp.out
        clear hp hown
        (repeat' first
    | ((with_reducible refine at_row ?_); refine row1_a fun _ _ _ _ _ _ _ => ?_)
    | with_reducible first | (first | apply alloc_k | apply row_k); intro _ _ _ _ _ _ | (first | apply fork | apply forkp) <;> intro _ | refine forke (fun _ => ?_) fun _ _ => ?_ | refine tail_k fun _ _ _ => ?_ | refine ext_k fun _ _ _ => ?_ | refine need_a ?_ | refine st_agg KR rfl ON fun _ _ _ _ => ?_ | refine wpd_q_a ?_
    | simp (maxDischargeDepth := 3) only [↓X, ↓Y, ↓Q, S1, ↓reduceIte, Nat.reduceEqDiff, Nat.reduceAdd, Int.reduceLT, Int.reduceLE, Int.reduceNeg, Int.reduceBEq, Int.reduceBNe, Int.reduceEq, Nat.reduceLeDiff, Nat.reduceMul, Nat.reduceLT, *]
    | simp (singlePass := true) (maxDischargeDepth := 99) only [*, S2, Nat.reduceLT])
        refine next_g hk hlt ?_
        (repeat' first
    | ((with_reducible refine at_row ?_); refine row1_a fun _ _ _ _ _ _ _ => ?_)
    | with_reducible first | (first | apply alloc_k | apply row_k); intro _ _ _ _ _ _ | (first | apply fork | apply forkp) <;> intro _ | refine forke (fun _ => ?_) fun _ _ => ?_ | refine tail_k fun _ _ _ => ?_ | refine ext_k fun _ _ _ => ?_ | refine need_a ?_ | refine st_agg KR rfl ON fun _ _ _ _ => ?_ | refine wpd_q_a ?_
    | simp (maxDischargeDepth := 3) only [↓X, ↓Y, ↓Q, S1, ↓reduceIte, Nat.reduceEqDiff, Nat.reduceAdd, Int.reduceLT, Int.reduceLE, Int.reduceNeg, Int.reduceBEq, Int.reduceBNe, Int.reduceEq, Nat.reduceLeDiff, Nat.reduceMul, Nat.reduceLT, *]
    | simp (singlePass := true) (maxDischargeDepth := 99) only [*, S2, Nat.reduceLT])
        all_goals first | exact hI.out | exact hI.out.2
    · rintro g2 w2 n2 ⟨hi2, hf2, hp⟩
      simp (maxDischargeDepth := 3) only [U, ↓reduceIte, Nat.reduceEqDiff, *] at hf2
      obtain ⟨hx2, nm, hown, hN⟩ := hp.out
      have s2 := hx2.st
      have r2 := Ext.refl w2
      have one2 := hown.one
      have hnmS : Hid (∀ w', Bl w2.heap.size w2 w' → Sl w' w2.heap.size none 1 nv (nm.map natV)) := fun w' h => (hown.sl1 (f := natV)).bl h
      have b2 : Bl w2.heap.size w2 w2 := Bl.refl (Nat.le_refl _)
      have hnl := hN.len
      have hN' : Hid (NM k nm) := hN
      clear hp I0 hown hN
      (repeat' first
    | ((with_reducible refine at_row ?_); refine row1_a fun _ _ _ _ _ _ _ => ?_)
    | with_reducible first | (first | apply alloc_k | apply row_k); intro _ _ _ _ _ _ | (first | apply fork | apply forkp) <;> intro _ | refine forke (fun _ => ?_) fun _ _ => ?_ | refine tail_k fun _ _ _ => ?_ | refine ext_k fun _ _ _ => ?_ | refine need_a ?_ | refine st_agg KR rfl ON fun _ _ _ _ => ?_ | refine wpd_q_a ?_
    | simp (maxDischargeDepth := 3) only [↓X, ↓Y, ↓Q, S1, ↓reduceIte, Nat.reduceEqDiff, Nat.reduceAdd, Int.reduceLT, Int.reduceLE, Int.reduceNeg, Int.reduceBEq, Int.reduceBNe, Int.reduceEq, Nat.reduceLeDiff, Nat.reduceMul, Nat.reduceLT, *]
    | simp (singlePass := true) (maxDischargeDepth := 99) only [*, S2, Nat.reduceLT])
      refine mk_one_k (n := k) (z := .slice none 0 0) rfl (by decide) (by omega) fun b6 w6 n6 k6 s6 q6 => ?_
      have hx6 : Ext w2 w6 := FR
      have hbb : w2.heap.size ≤ b6 := FR
      have J0 : Hid (Ext w2 w6 ∧ ∃ us ll, us.length = k ∧ RowsB w6 w2.heap.size b6 us ll ∧ RI nm 0 0 ll) := ⟨hx6, _, _, by simp, RowsB.start (k6.2.1 _ k6.2.2.1), RI.start hnl⟩
      clear k6 q6
      (repeat' first
    | ((with_reducible refine at_row ?_); refine row1_a fun _ _ _ _ _ _ _ => ?_)
    | with_reducible first | (first | apply alloc_k | apply row_k); intro _ _ _ _ _ _ | (first | apply fork | apply forkp) <;> intro _ | refine forke (fun _ => ?_) fun _ _ => ?_ | refine tail_k fun _ _ _ => ?_ | refine ext_k fun _ _ _ => ?_ | refine need_a ?_ | refine st_agg KR rfl ON fun _ _ _ _ => ?_ | refine wpd_q_a ?_
    | simp (maxDischargeDepth := 3) only [↓X, ↓Y, ↓Q, S1, ↓reduceIte, Nat.reduceEqDiff, Nat.reduceAdd, Int.reduceLT, Int.reduceLE, Int.reduceNeg, Int.reduceBEq, Int.reduceBNe, Int.reduceEq, Nat.reduceLeDiff, Nat.reduceMul, Nat.reduceLT, *]
    | simp (singlePass := true) (maxDischargeDepth := 99) only [*, S2, Nat.reduceLT])
      refine loop_g k (fun g0 i g w' => g 67 = .int .i64 i ∧ (g 2 = g0 2 ∧ g 8 = g0 8 ∧ g 12 = g0 12 ∧ g 66 = g0 66) ∧ ∃ at_ : Nat, g 13 = .int .i64 at_ ∧ Hid (at_ ≤ 9 * i ∧ Ext w2 w' ∧ ∃ us ll, us.length = k ∧ RowsB w' w2.heap.size b6 us ll ∧ RI nm i 0 ll)) KR ?_ ?_ ?_
      · (repeat' first
    | ((with_reducible refine at_row ?_); refine row1_a fun _ _ _ _ _ _ _ => ?_)
    | with_reducible first | (first | apply alloc_k | apply row_k); intro _ _ _ _ _ _ | (first | apply fork | apply forkp) <;> intro _ | refine forke (fun _ => ?_) fun _ _ => ?_ | refine tail_k fun _ _ _ => ?_ | refine ext_k fun _ _ _ => ?_ | refine need_a ?_ | refine st_agg KR rfl ON fun _ _ _ _ => ?_ | refine wpd_q_a ?_
    | simp (maxDischargeDepth := 3) only [↓X, ↓Y, ↓Q, S1, ↓reduceIte, Nat.reduceEqDiff, Nat.reduceAdd, Int.reduceLT, Int.reduceLE, Int.reduceNeg, Int.reduceBEq, Int.reduceBNe, Int.reduceEq, Nat.reduceLeDiff, Nat.reduceMul, Nat.reduceLT, *]
    | simp (singlePass := true) (maxDischargeDepth := 99) only [*, S2, Nat.reduceLT])
        exact ⟨0, rfl, Nat.zero_le _, J0.out.2⟩
      · rintro i m g3 w3 hk hlt n3 ⟨hi3, hf3, at0, h13, hp3⟩
        simp (maxDischargeDepth := 3) only [U, ↓reduceIte, Nat.reduceEqDiff, *] at hf3
        have hiI : ((i : Int) < (k : Int)) := by omega
        have hwi : IntKind.i64.wrap ((i : Int) + 1) = ((i + 1 : Nat) : Int) := by rw [wrap_i64_id] <;> omega
        have hat := hp3.out.1
        have K0 : Hid (Ext w2 w3 ∧ ∃ us ll, us.length = k ∧ RowsB w3 w2.heap.size b6 us ll ∧ RI nm i 0 ll) := hp3.out.2
        clear hp3
        (repeat' first
    | ((with_reducible refine at_row ?_); refine row1_a fun _ _ _ _ _ _ _ => ?_)
    | with_reducible first | (first | apply alloc_k | apply row_k); intro _ _ _ _ _ _ | (first | apply fork | apply forkp) <;> intro _ | refine forke (fun _ => ?_) fun _ _ => ?_ | refine tail_k fun _ _ _ => ?_ | refine ext_k fun _ _ _ => ?_ | refine need_a ?_ | refine st_agg KR rfl ON fun _ _ _ _ => ?_ | refine wpd_q_a ?_
    | simp (maxDischargeDepth := 3) only [↓X, ↓Y, ↓Q, S1, ↓reduceIte, Nat.reduceEqDiff, Nat.reduceAdd, Int.reduceLT, Int.reduceLE, Int.reduceNeg, Int.reduceBEq, Int.reduceBNe, Int.reduceEq, Nat.reduceLeDiff, Nat.reduceMul, Nat.reduceLT, *]
    | simp (singlePass := true) (maxDischargeDepth := 99) only [*, S2, Nat.reduceLT])
        refine loop_g i (fun g0 j g w' => g 71 = .int .i64 j ∧ (g 2 = g0 2 ∧ g 8 = g0 8 ∧ g 12 = g0 12 ∧ g 14 = g0 14 ∧ g 66 = g0 66 ∧ g 67 = g0 67 ∧ g 70 = g0 70) ∧ ∃ at_ : Nat, g 13 = .int .i64 at_ ∧ Hid (at_ = at0 + j ∧ Ext w2 w' ∧ ∃ us ll, us.length = k ∧ RowsB w' w2.heap.size b6 us ll ∧ RI nm i j ll)) KR ?_ ?_ ?_
        · (repeat' first
    | ((with_reducible refine at_row ?_); refine row1_a fun _ _ _ _ _ _ _ => ?_)
    | with_reducible first | (first | apply alloc_k | apply row_k); intro _ _ _ _ _ _ | (first | apply fork | apply forkp) <;> intro _ | refine forke (fun _ => ?_) fun _ _ => ?_ | refine tail_k fun _ _ _ => ?_ | refine ext_k fun _ _ _ => ?_ | refine need_a ?_ | refine st_agg KR rfl ON fun _ _ _ _ => ?_ | refine wpd_q_a ?_
    | simp (maxDischargeDepth := 3) only [↓X, ↓Y, ↓Q, S1, ↓reduceIte, Nat.reduceEqDiff, Nat.reduceAdd, Int.reduceLT, Int.reduceLE, Int.reduceNeg, Int.reduceBEq, Int.reduceBNe, Int.reduceEq, Nat.reduceLeDiff, Nat.reduceMul, Nat.reduceLT, *]
    | simp (singlePass := true) (maxDischargeDepth := 99) only [*, S2, Nat.reduceLT])
          exact ⟨at0, rfl, rfl, K0.out⟩
        · rintro j m4 g4 w4 hk4 hlt4 n4 ⟨hi4, hf4, at4, h134, hp4⟩
          simp (maxDischargeDepth := 3) only [U, ↓reduceIte, Nat.reduceEqDiff, *] at hf4
          have hae := hp4.out.1
          subst hae
          obtain ⟨_, hx4, us, ll, hul, hR, hRI⟩ := hp4.out
          have hjI : ((j : Int) < (i : Int)) := by omega
          have hwj : IntKind.i64.wrap ((j : Int) + 1) = ((j + 1 : Nat) : Int) := by rw [wrap_i64_id] <;> omega
          have hat4 : at0 + j < 200 := by omega
          have hwa : IntKind.i64.wrap (((at0 + j : Nat) : Int) + 1) = ((at0 + j + 1 : Nat) : Int) := by rw [wrap_i64_id] <;> omega
          have hbl4 : Bl w2.heap.size w2 w4 := ⟨Nat.le_refl _, hx4⟩
          have KN := (hnmS.out w4 hbl4).k hx4.size
          have st4 := hx4.st
          have r4 := Ext.refl w4
          have hneg : ¬ (((at0 + j : Nat) : Int) < 0) := by omega
          have hL : Hid (Ext w2 w4 ∧ ∃ us ll, us.length = k ∧ RowsB w4 w2.heap.size b6 us ll ∧ RI nm i j ll) := hp4.out.2
          have hnl9 : nm.length = k := hnl
          have hiN : i < nm.length := by omega
          have hjN : j < nm.length := by omega
          have hjk9 : j < k := by omega
          have hru : nm[i] < us.length := by rw [hul]; exact hN'.out.lt _ (List.getElem_mem hiN)
          have hbd : (ll.getD nm[i] []).length < 1000000000000 := by have := hRI.bound hiN; omega
          have hput := hRI.put hN'.out.nd (fun x hx => by rw [← hR.len, hul]; exact hN'.out.lt x hx) hiN hlt4
          have kb := hR.hb.bk
          have onei := (hR.own _ hru).one
          have gu : us[nm[i]]? = some us[nm[i]] := List.getElem?_eq_getElem hru
          have hgg : ∃ g, w2.heap.size ≤ g ∧ g < w4.heap.size ∧ ∀ c, us[nm[i]].ownBlock = some c → c = g := by
            rcases h : us[nm[i]].ownBlock with _ | c
            · exact ⟨b6, hbb, hR.hb.lt, fun c hc => by cases hc⟩
            · have := (hR.own _ hru).lt c h
              exact ⟨c, this.1, this.2, fun d hd => (Option.some.inj hd).symm⟩
          obtain ⟨gg, hg1, hg2, hg3⟩ := hgg
          have hB4 : w2.heap.size ≤ w4.heap.size := hx4.size
          have hR' : Hid _ := hR
          have hx4' : Hid _ := hx4
          replace hg3 : Hid _ := hg3
          replace hput : Hid _ := hput
          replace hbd : Hid _ := hbd
          generalize hx9e : nm[j] = x at *
          generalize hr9e : nm[i] = r at *
          generalize hu9e : us[r] = u at *
          have hld6 : ∀ w', TBn (fun b => b ∈ [gg]) w4 w' → Kp gg w4 w' → w'.cell? ⟨b6, r, none⟩ = some u := fun w' h1 h2 => by
            have h3 := (hR'.out.hb.ext (tbn_ext h1 h2.2)).cell r
            rw [h3]
            exact gu
          clear hp4 hR hRI hx4
          (repeat' first
    | ((with_reducible refine wpd_at 24 ?_); refine wpd_hold ?_)
    | ((with_reducible refine at_row ?_); refine row1_a fun _ _ _ _ _ _ _ => ?_)
    | with_reducible first | (first | apply alloc_k | apply row_k); intro _ _ _ _ _ _ | (first | apply fork | apply forkp) <;> intro _ | refine forke (fun _ => ?_) fun _ _ => ?_ | refine tail_k fun _ _ _ => ?_ | refine ext_k fun _ _ _ => ?_ | refine need_a ?_ | refine st_agg KR rfl ON fun _ _ _ _ => ?_ | refine wpd_q_a ?_
    | simp (maxDischargeDepth := 3) only [↓X, ↓Y, ↓Q, S1, ↓reduceIte, Nat.reduceEqDiff, Nat.reduceAdd, Int.reduceLT, Int.reduceLE, Int.reduceNeg, Int.reduceBEq, Int.reduceBNe, Int.reduceEq, Nat.reduceLeDiff, Nat.reduceMul, Nat.reduceLT, *, hwa, hx9e, hr9e]
    | simp (singlePass := true) (maxDischargeDepth := 99) only [*, S2, Nat.reduceLT, hwa, hx9e, hr9e])
          rotate_left
          · refine next_g hk4 hlt4 ?_
            (repeat' first
    | ((with_reducible refine at_row ?_); refine row1_a fun _ _ _ _ _ _ _ => ?_)
    | with_reducible first | (first | apply alloc_k | apply row_k); intro _ _ _ _ _ _ | (first | apply fork | apply forkp) <;> intro _ | refine forke (fun _ => ?_) fun _ _ => ?_ | refine tail_k fun _ _ _ => ?_ | refine ext_k fun _ _ _ => ?_ | refine need_a ?_ | refine st_agg KR rfl ON fun _ _ _ _ => ?_ | refine wpd_q_a ?_
    | simp (maxDischargeDepth := 3) only [↓X, ↓Y, ↓Q, S1, ↓reduceIte, Nat.reduceEqDiff, Nat.reduceAdd, Int.reduceLT, Int.reduceLE, Int.reduceNeg, Int.reduceBEq, Int.reduceBNe, Int.reduceEq, Nat.reduceLeDiff, Nat.reduceMul, Nat.reduceLT, *]
    | simp (singlePass := true) (maxDischargeDepth := 99) only [*, S2, Nat.reduceLT])
            obtain ⟨h2, us', ll', h3, h4, h5⟩ := hL.out
            exact ⟨at0 + j + 1, rfl, by omega, us', ll', h3, h4, h5.skip⟩
          have hRB : ∀ b ∈ [gg], b < w4.heap.size := by simp only [List.mem_cons, List.not_mem_nil, or_false, forall_eq_or_imp, forall_eq]; exact FR
          unfold wpdH
          refine wpd_relL 18 [gg] [(17, gg)] rfl (fun iI v w9 => match iI with
            | 0 => v = .slice (some ⟨b6, 0, none⟩) k k
            | 1 => v = nv
            | 2 => v = .int .i64 (i : Nat)
            | 3 => v = elemAt nv 1 i
            | 4 => v = .int .i64 (r : Nat)
            | 5 => v = .slice (some ⟨b6, 0, none⟩) k k
            | 6 => v = nv
            | 7 => v = .int .i64 (i : Nat)
            | 8 => v = elemAt nv 1 i
            | 9 => v = .int .i64 (r : Nat)
            | 10 => v = .pointer (some ⟨b6, r, none⟩)
            | 11 => v = u
            | 12 => v = nv
            | 13 => v = .int .i64 (j : Nat)
            | 14 => v = elemAt nv 1 j
            | 15 => v = .int .i64 (x : Nat)
            | 16 => ∃ b, v = .slice (some ⟨b, 0, none⟩) 1 1 ∧ Blk w9 b 3 [.int .i64 (x : Nat)] ∧ w4.heap.size ≤ b
            | 17 => RowP w4 w9 w2.heap.size b6 r us ll (x : Int) v
            | _ => False) KR KR KR hRB (by simp only [List.nodup_cons, List.mem_cons, List.not_mem_nil, or_false, not_or, List.nodup_nil, not_false_eq_true, and_true] <;> exact FR) ?_ ?_ ?_
          · intro iI v w1 w2 hR hx9
            match iI, hR with
            | 0, h => exact h
            | 1, h => exact h
            | 2, h => exact h
            | 3, h => exact h
            | 4, h => exact h
            | 5, h => exact h
            | 6, h => exact h
            | 7, h => exact h
            | 8, h => exact h
            | 9, h => exact h
            | 10, h => exact h
            | 11, h => exact h
            | 12, h => exact h
            | 13, h => exact h
            | 14, h => exact h
            | 15, h => exact h
            | 16, ⟨b, e, h1, h2⟩ => exact ⟨b, e, h1.tb hx9 (fun hX => by have := hRB b hX.1; omega), h2⟩
            | 17, h => exact RowP.tbn h hx9 (fun c hX => hX.2 (by obtain rfl := List.mem_singleton.1 hX.1; rfl))
          · intro iI oO hi ho gF w9 hx9 hdep hag hun
            have s9 := hx9.sb
            simp only [Sb, List.mem_cons, List.not_mem_nil, or_false, forall_eq_or_imp, forall_eq] at s9
            have n9 : Now w9 := trivial
            have r9 := Ext.refl w9
            have z9 := hx9.size
            rcases iI with _|_|_|_|_|_|_|_|_|_|_|_|_|_|_|_|_|_|iI
            have e := Option.some.inj ho
            subst e
            have a12 := hag.at 12 KR
            simp only [S5, ↓reduceIte, Nat.reduceEqDiff, initF, *] at a12
            clear hag hdep ho hun
            refine ⟨fun _ => ?_, fun b hb => by simp [bkL] at hb⟩
            refine relStep_off rfl ?_
            rotate_left
            have e := Option.some.inj ho
            subst e
            have a8 := hag.at 8 KR
            simp only [S5, ↓reduceIte, Nat.reduceEqDiff, initF, *] at a8
            clear hag hdep ho hun
            refine ⟨fun _ => ?_, fun b hb => by simp [bkL] at hb⟩
            refine relStep_off rfl ?_
            rotate_left
            have e := Option.some.inj ho
            subst e
            have a14 := hag.at 14 KR
            simp only [S5, ↓reduceIte, Nat.reduceEqDiff, initF, *] at a14
            clear hag hdep ho hun
            refine ⟨fun _ => ?_, fun b hb => by simp [bkL] at hb⟩
            refine relStep_off rfl ?_
            rotate_left
            have e := Option.some.inj ho
            subst e
            have d1 : (gF 80) = nv := hdep ⟨1, .data⟩ (by simp) rfl _ _ rfl rfl
            have d2 : (gF 81) = .int .i64 (i : Nat) := hdep ⟨2, .data⟩ (by simp) rfl _ _ rfl rfl
            clear hag hdep ho hun
            refine ⟨fun _ => ?_, fun b hb => by simp [bkL] at hb⟩
            refine relStep_off rfl ?_
            rotate_left
            have e := Option.some.inj ho
            subst e
            have d3 : (gF 82) = elemAt nv 1 i := hdep ⟨3, .data⟩ (by simp) rfl _ _ rfl rfl
            clear hag hdep ho hun
            refine ⟨fun _ => ?_, fun b hb => by simp [bkL] at hb⟩
            refine relStep_off rfl ?_
            rotate_left
            have e := Option.some.inj ho
            subst e
            have a12 := hag.at 12 KR
            simp only [S5, ↓reduceIte, Nat.reduceEqDiff, initF, *] at a12
            clear hag hdep ho hun
            refine ⟨fun _ => ?_, fun b hb => by simp [bkL] at hb⟩
            refine relStep_off rfl ?_
            rotate_left
            have e := Option.some.inj ho
            subst e
            have a8 := hag.at 8 KR
            simp only [S5, ↓reduceIte, Nat.reduceEqDiff, initF, *] at a8
            clear hag hdep ho hun
            refine ⟨fun _ => ?_, fun b hb => by simp [bkL] at hb⟩
            refine relStep_off rfl ?_
            rotate_left
            have e := Option.some.inj ho
            subst e
            have a14 := hag.at 14 KR
            simp only [S5, ↓reduceIte, Nat.reduceEqDiff, initF, *] at a14
            clear hag hdep ho hun
            refine ⟨fun _ => ?_, fun b hb => by simp [bkL] at hb⟩
            refine relStep_off rfl ?_
            rotate_left
            have e := Option.some.inj ho
            subst e
            have d6 : (gF 85) = nv := hdep ⟨6, .data⟩ (by simp) rfl _ _ rfl rfl
            have d7 : (gF 86) = .int .i64 (i : Nat) := hdep ⟨7, .data⟩ (by simp) rfl _ _ rfl rfl
            clear hag hdep ho hun
            refine ⟨fun _ => ?_, fun b hb => by simp [bkL] at hb⟩
            refine relStep_off rfl ?_
            rotate_left
            have e := Option.some.inj ho
            subst e
            have d8 : (gF 87) = elemAt nv 1 i := hdep ⟨8, .data⟩ (by simp) rfl _ _ rfl rfl
            clear hag hdep ho hun
            refine ⟨fun _ => ?_, fun b hb => by simp [bkL] at hb⟩
            refine relStep_off rfl ?_
            rotate_left
            have e := Option.some.inj ho
            subst e
            have d5 : (gF 84) = .slice (some ⟨b6, 0, none⟩) k k := hdep ⟨5, .data⟩ (by simp) rfl _ _ rfl rfl
            have d9 : (gF 88) = .int .i64 (r : Nat) := hdep ⟨9, .data⟩ (by simp) rfl _ _ rfl rfl
            clear hag hdep ho hun
            refine ⟨fun _ => ?_, fun b hb => by simp [bkL] at hb⟩
            refine relStep_off rfl ?_
            rotate_left
            have e := Option.some.inj ho
            subst e
            have d10 : (gF 89) = .pointer (some ⟨b6, r, none⟩) := hdep ⟨10, .data⟩ (by simp) rfl _ _ rfl rfl
            have un17 : Kp gg w4 w9 := ⟨hRB _ (by simp), hun 17 _ (by decide) rfl KR⟩
            clear hag hdep ho hun
            refine ⟨fun _ => ?_, fun b hb => by simp [bkL] at hb⟩
            refine relStep_off rfl ?_
            rotate_left
            have e := Option.some.inj ho
            subst e
            have a8 := hag.at 8 KR
            simp only [S5, ↓reduceIte, Nat.reduceEqDiff, initF, *] at a8
            clear hag hdep ho hun
            refine ⟨fun _ => ?_, fun b hb => by simp [bkL] at hb⟩
            refine relStep_off rfl ?_
            rotate_left
            have e := Option.some.inj ho
            subst e
            have a15 := hag.at 15 KR
            simp only [S5, ↓reduceIte, Nat.reduceEqDiff, initF, *] at a15
            clear hag hdep ho hun
            refine ⟨fun _ => ?_, fun b hb => by simp [bkL] at hb⟩
            refine relStep_off rfl ?_
            rotate_left
            have e := Option.some.inj ho
            subst e
            have d12 : (gF 91) = nv := hdep ⟨12, .data⟩ (by simp) rfl _ _ rfl rfl
            have d13 : (gF 92) = .int .i64 (j : Nat) := hdep ⟨13, .data⟩ (by simp) rfl _ _ rfl rfl
            clear hag hdep ho hun
            refine ⟨fun _ => ?_, fun b hb => by simp [bkL] at hb⟩
            refine relStep_off rfl ?_
            rotate_left
            have e := Option.some.inj ho
            subst e
            have d14 : (gF 93) = elemAt nv 1 j := hdep ⟨14, .data⟩ (by simp) rfl _ _ rfl rfl
            clear hag hdep ho hun
            refine ⟨fun _ => ?_, fun b hb => by simp [bkL] at hb⟩
            refine relStep_off rfl ?_
            rotate_left
            have e := Option.some.inj ho
            subst e
            have d15 : (gF 94) = .int .i64 (x : Nat) := hdep ⟨15, .data⟩ (by simp) rfl _ _ rfl rfl
            have un17 : Kp gg w4 w9 := ⟨hRB _ (by simp), hun 17 _ (by decide) rfl KR⟩
            clear hag hdep ho hun
            refine ⟨fun _ => ?_, fun b hb => by simp [bkL] at hb⟩
            refine relStep_off rfl ?_
            rotate_left
            have e := Option.some.inj ho
            subst e
            have d11 : (gF 90) = u := hdep ⟨11, .data⟩ (by simp) rfl _ _ rfl rfl
            have d16 : ∃ b, (gF 95) = .slice (some ⟨b, 0, none⟩) 1 1 ∧ Blk w9 b 3 [.int .i64 (x : Nat)] ∧ w4.heap.size ≤ b := hdep ⟨16, .data⟩ (by simp) rfl _ _ rfl rfl
            obtain ⟨b16, e16, hb16, q16⟩ := d16
            have k16 := hb16.bk
            have nw16 := Nw.of q16
            clear hag hdep ho hun
            refine ⟨fun h => by simp [bkL] at h, fun b hb hU => ?_⟩
            obtain rfl : gg = b := by simpa [bkL] using hb
            refine relStep_off rfl ?_
            rotate_left
            · omega
            all_goals (repeat' first
    | ((with_reducible refine at_row ?_); refine row1_a fun _ _ _ _ _ _ _ => ?_)
    | with_reducible first | (first | apply alloc_k | apply row_k); intro _ _ _ _ _ _ | (first | apply fork | apply forkp) <;> intro _ | refine forke (fun _ => ?_) fun _ _ => ?_ | refine tail_k fun _ _ _ => ?_ | refine ext_k fun _ _ _ => ?_ | refine need_a ?_ | refine st_agg KR rfl ON fun _ _ _ _ => ?_ | refine wpd_q_a ?_
    | simp (maxDischargeDepth := 3) only [↓X, ↓Y, ↓Q, S1, ↓reduceIte, Nat.reduceEqDiff, Nat.reduceAdd, Int.reduceLT, Int.reduceLE, Int.reduceNeg, Int.reduceBEq, Int.reduceBNe, Int.reduceEq, Nat.reduceLeDiff, Nat.reduceMul, Nat.reduceLT, *, hx9e, hr9e]
    | simp (singlePass := true) (maxDischargeDepth := 99) only [*, S2, Nat.reduceLT, hx9e, hr9e])
            all_goals first
              | (rename_i b10 w10 n10 k10 s10 q10; exact ⟨_, rfl, k10.2.1 _ k10.2.2.1, FR⟩)
              | (rename_i b10 w10 n10 k10 s10 q10 l10; exact ⟨_, rfl, k10.2.1 _ k10.2.2.1, FR⟩)
              | (exact RowsB.app_tbn hR'.out hru hu9e (fun c h => hg3.out c (hu9e ▸ h)) hx9 hU hb16 hbd.out hB4)
          · intro g9 w9 hx9 hR hS9 hag
            have s9 := hx9.sb
            simp only [Sb, List.mem_cons, List.not_mem_nil, or_false, forall_eq_or_imp, forall_eq] at s9
            have n9 : Now w9 := trivial
            have r9 := Ext.refl w9
            have z9 := hx9.size
            have d0 : (g9 79) = .slice (some ⟨b6, 0, none⟩) k k := hR 0 _ _ (by decide) rfl rfl
            have d4 : (g9 83) = .int .i64 (r : Nat) := hR 4 _ _ (by decide) rfl rfl
            have d17 : RowP w4 w9 w2.heap.size b6 r us ll (x : Int) (g9 96) := hR 17 _ _ (by decide) rfl rfl
            have a2 := hag.at 2 KR
            have a8 := hag.at 8 KR
            have a12 := hag.at 12 KR
            have a13 := hag.at 13 KR
            have a14 := hag.at 14 KR
            have a66 := hag.at 66 KR
            have a67 := hag.at 67 KR
            have a70 := hag.at 70 KR
            have a71 := hag.at 71 KR
            simp only [S5, ↓reduceIte, Nat.reduceEqDiff, initF, *] at a2 a8 a12 a13 a14 a66 a67 a70 a71
            clear hag hR hS9
            simp only [List.drop_succ_cons, List.drop_zero]
            have hone17 := d17.own.one
            have kb9 := (RowP.blkb hR'.out d17).bk
            have c9 : Cg b6 w9 w9 := Chg.refl' w9 b6
            have d17' : Hid _ := d17
            clear hld6 kb onei gu d17
            (repeat' first
    | ((with_reducible refine at_row ?_); refine row1_a fun _ _ _ _ _ _ _ => ?_)
    | with_reducible first | (first | apply alloc_k | apply row_k); intro _ _ _ _ _ _ | (first | apply fork | apply forkp) <;> intro _ | refine forke (fun _ => ?_) fun _ _ => ?_ | refine tail_k fun _ _ _ => ?_ | refine ext_k fun _ _ _ => ?_ | refine need_a ?_ | refine st_agg KR rfl ON fun _ _ _ _ => ?_ | refine wpd_q_a ?_
    | simp (maxDischargeDepth := 3) only [↓X, ↓Y, ↓Q, S1, ↓reduceIte, Nat.reduceEqDiff, Nat.reduceAdd, Int.reduceLT, Int.reduceLE, Int.reduceNeg, Int.reduceBEq, Int.reduceBNe, Int.reduceEq, Nat.reduceLeDiff, Nat.reduceMul, Nat.reduceLT, *, hwa]
    | simp (singlePass := true) (maxDischargeDepth := 99) only [*, S2, Nat.reduceLT, hwa])
            refine st_one KR hru hone17 fun w12 n12 k12 s12 => ?_
            have hc12 : Cg b6 w9 w12 := FR
            have hr12 := hR'.out.put hru d17'.out (k12.2.1 _ k12.2.2.1) hc12
            have hx9' : Ext w2 w9 := Ext.trans' hx4'.out (RowP.below hR'.out d17'.out hB4)
            have hx12 : Ext w2 w12 := Ext.trans' hx9' (hc12.below hbb hx9'.size)
            have hN : Hid (Ext w2 w12 ∧ ∃ us ll, us.length = k ∧ RowsB w12 w2.heap.size b6 us ll ∧ RI nm i (j + 1) ll) := ⟨hx12, _, _, by rw [List.length_set]; exact hul, hr12, hput.out⟩
            clear hr12 hx12 k12 kb9 c9 hc12 hx9'
            (repeat' first
    | ((with_reducible refine at_row ?_); refine row1_a fun _ _ _ _ _ _ _ => ?_)
    | with_reducible first | (first | apply alloc_k | apply row_k); intro _ _ _ _ _ _ | (first | apply fork | apply forkp) <;> intro _ | refine forke (fun _ => ?_) fun _ _ => ?_ | refine tail_k fun _ _ _ => ?_ | refine ext_k fun _ _ _ => ?_ | refine need_a ?_ | refine st_agg KR rfl ON fun _ _ _ _ => ?_ | refine wpd_q_a ?_
    | simp (maxDischargeDepth := 3) only [↓X, ↓Y, ↓Q, S1, ↓reduceIte, Nat.reduceEqDiff, Nat.reduceAdd, Int.reduceLT, Int.reduceLE, Int.reduceNeg, Int.reduceBEq, Int.reduceBNe, Int.reduceEq, Nat.reduceLeDiff, Nat.reduceMul, Nat.reduceLT, *, hwa]
    | simp (singlePass := true) (maxDischargeDepth := 99) only [*, S2, Nat.reduceLT, hwa])
            refine next_g hk4 hlt4 ?_
            (repeat' first
    | ((with_reducible refine at_row ?_); refine row1_a fun _ _ _ _ _ _ _ => ?_)
    | with_reducible first | (first | apply alloc_k | apply row_k); intro _ _ _ _ _ _ | (first | apply fork | apply forkp) <;> intro _ | refine forke (fun _ => ?_) fun _ _ => ?_ | refine tail_k fun _ _ _ => ?_ | refine ext_k fun _ _ _ => ?_ | refine need_a ?_ | refine st_agg KR rfl ON fun _ _ _ _ => ?_ | refine wpd_q_a ?_
    | simp (maxDischargeDepth := 3) only [↓X, ↓Y, ↓Q, S1, ↓reduceIte, Nat.reduceEqDiff, Nat.reduceAdd, Int.reduceLT, Int.reduceLE, Int.reduceNeg, Int.reduceBEq, Int.reduceBNe, Int.reduceEq, Nat.reduceLeDiff, Nat.reduceMul, Nat.reduceLT, *]
    | simp (singlePass := true) (maxDischargeDepth := 99) only [*, S2, Nat.reduceLT])
            exact ⟨at0 + j + 1, rfl, by omega, hN.out.2⟩
        · rintro g4 w4 n4 ⟨hi4, hf4, at4, h134, hp4⟩
          simp (maxDischargeDepth := 3) only [U, ↓reduceIte, Nat.reduceEqDiff, *] at hf4
          have hni4 : ¬ ((i : Int) < (i : Int)) := by omega
          have hE : Hid (at4 ≤ 9 * (i + 1) ∧ Ext w2 w4 ∧ ∃ us ll, us.length = k ∧ RowsB w4 w2.heap.size b6 us ll ∧ RI nm (i + 1) 0 ll) := by
            obtain ⟨h1, h2, us, ll, h3, h4, h5⟩ := hp4.out
            exact ⟨by omega, h2, us, ll, h3, h4, h5.next⟩
          clear hp4
          (repeat' first
    | ((with_reducible refine at_row ?_); refine row1_a fun _ _ _ _ _ _ _ => ?_)
    | with_reducible first | (first | apply alloc_k | apply row_k); intro _ _ _ _ _ _ | (first | apply fork | apply forkp) <;> intro _ | refine forke (fun _ => ?_) fun _ _ => ?_ | refine tail_k fun _ _ _ => ?_ | refine ext_k fun _ _ _ => ?_ | refine need_a ?_ | refine st_agg KR rfl ON fun _ _ _ _ => ?_ | refine wpd_q_a ?_
    | simp (maxDischargeDepth := 3) only [↓X, ↓Y, ↓Q, S1, ↓reduceIte, Nat.reduceEqDiff, Nat.reduceAdd, Int.reduceLT, Int.reduceLE, Int.reduceNeg, Int.reduceBEq, Int.reduceBNe, Int.reduceEq, Nat.reduceLeDiff, Nat.reduceMul, Nat.reduceLT, *]
    | simp (singlePass := true) (maxDischargeDepth := 99) only [*, S2, Nat.reduceLT])
          refine next_g hk hlt ?_
          (repeat' first
    | ((with_reducible refine at_row ?_); refine row1_a fun _ _ _ _ _ _ _ => ?_)
    | with_reducible first | (first | apply alloc_k | apply row_k); intro _ _ _ _ _ _ | (first | apply fork | apply forkp) <;> intro _ | refine forke (fun _ => ?_) fun _ _ => ?_ | refine tail_k fun _ _ _ => ?_ | refine ext_k fun _ _ _ => ?_ | refine need_a ?_ | refine st_agg KR rfl ON fun _ _ _ _ => ?_ | refine wpd_q_a ?_
    | simp (maxDischargeDepth := 3) only [↓X, ↓Y, ↓Q, S1, ↓reduceIte, Nat.reduceEqDiff, Nat.reduceAdd, Int.reduceLT, Int.reduceLE, Int.reduceNeg, Int.reduceBEq, Int.reduceBNe, Int.reduceEq, Nat.reduceLeDiff, Nat.reduceMul, Nat.reduceLT, *]
    | simp (singlePass := true) (maxDischargeDepth := 99) only [*, S2, Nat.reduceLT])
          exact ⟨_, rfl, hE.out⟩
      · rintro g3 w3 n3 ⟨hi3, hf3, at0, h13, hp3⟩
        simp (maxDischargeDepth := 3) only [U, ↓reduceIte, Nat.reduceEqDiff, *] at hf3
        obtain ⟨_, hx3, us, ll, hul, hR, hRI⟩ := hp3.out
        have hval := rows_valid hN'.out hRI (by omega)
        have hlk : ll.length = k := by rw [← hR.len]; exact hul
        have st3 := hx3.st
        have L0 : Hid (Ext w2 w3 ∧ RowsB w3 w2.heap.size b6 us (srt ll 0)) := ⟨hx3, by rw [srt_zero]; exact hR⟩
        replace hval : Hid _ := hval
        have hxx : Ext w w2 := hx2
        clear hp3 hR hRI
        (repeat' first
    | ((with_reducible refine at_row ?_); refine row1_a fun _ _ _ _ _ _ _ => ?_)
    | with_reducible first | (first | apply alloc_k | apply row_k); intro _ _ _ _ _ _ | (first | apply fork | apply forkp) <;> intro _ | refine forke (fun _ => ?_) fun _ _ => ?_ | refine tail_k fun _ _ _ => ?_ | refine ext_k fun _ _ _ => ?_ | refine need_a ?_ | refine st_agg KR rfl ON fun _ _ _ _ => ?_ | refine wpd_q_a ?_
    | simp (maxDischargeDepth := 3) only [↓X, ↓Y, ↓Q, S1, ↓reduceIte, Nat.reduceEqDiff, Nat.reduceAdd, Int.reduceLT, Int.reduceLE, Int.reduceNeg, Int.reduceBEq, Int.reduceBNe, Int.reduceEq, Nat.reduceLeDiff, Nat.reduceMul, Nat.reduceLT, *]
    | simp (singlePass := true) (maxDischargeDepth := 99) only [*, S2, Nat.reduceLT])
        refine loop_g k (fun g0 i g w' => g 104 = .int .i64 i ∧ (g 12 = g0 12 ∧ g 103 = g0 103) ∧ Hid (Ext w2 w' ∧ RowsB w' w2.heap.size b6 us (srt ll i))) KR ?_ ?_ ?_
        · (repeat' first
    | ((with_reducible refine at_row ?_); refine row1_a fun _ _ _ _ _ _ _ => ?_)
    | with_reducible first | (first | apply alloc_k | apply row_k); intro _ _ _ _ _ _ | (first | apply fork | apply forkp) <;> intro _ | refine forke (fun _ => ?_) fun _ _ => ?_ | refine tail_k fun _ _ _ => ?_ | refine ext_k fun _ _ _ => ?_ | refine need_a ?_ | refine st_agg KR rfl ON fun _ _ _ _ => ?_ | refine wpd_q_a ?_
    | simp (maxDischargeDepth := 3) only [↓X, ↓Y, ↓Q, S1, ↓reduceIte, Nat.reduceEqDiff, Nat.reduceAdd, Int.reduceLT, Int.reduceLE, Int.reduceNeg, Int.reduceBEq, Int.reduceBNe, Int.reduceEq, Nat.reduceLeDiff, Nat.reduceMul, Nat.reduceLT, *]
    | simp (singlePass := true) (maxDischargeDepth := 99) only [*, S2, Nat.reduceLT])
          all_goals first | exact L0.out | exact ⟨rfl, L0.out⟩ | exact L0.out.2
        · rintro i m4 g4 w4 hk4 hlt4 n4 ⟨hi4, hf4, hp4⟩
          simp (maxDischargeDepth := 3) only [U, ↓reduceIte, Nat.reduceEqDiff, *] at hf4
          obtain ⟨hx4, hR⟩ := hp4.out
          have hiI : ((i : Int) < (k : Int)) := by omega
          have hwi : IntKind.i64.wrap ((i : Int) + 1) = ((i + 1 : Nat) : Int) := by rw [wrap_i64_id] <;> omega
          have hiu : i < us.length := by omega
          have kb := hR.hb.bk
          have g1 : us[i]? = some us[i] := List.getElem?_eq_getElem hiu
          have onei := (hR.own i hiu).one
          have hst := srt_step (ll := ll) (i := i) (by omega)
          have hR' : Hid _ := hR
          have hx4' : Hid _ := hx4
          replace hst : Hid _ := hst
          clear hp4 hR hx4
          (repeat' first
    | ((with_reducible refine at_row ?_); refine row1_a fun _ _ _ _ _ _ _ => ?_)
    | with_reducible first | (first | apply alloc_k | apply row_k); intro _ _ _ _ _ _ | (first | apply fork | apply forkp) <;> intro _ | refine forke (fun _ => ?_) fun _ _ => ?_ | refine tail_k fun _ _ _ => ?_ | refine ext_k fun _ _ _ => ?_ | refine need_a ?_ | refine st_agg KR rfl ON fun _ _ _ _ => ?_ | refine wpd_q_a ?_
    | simp (maxDischargeDepth := 3) only [↓X, ↓Y, ↓Q, S1, ↓reduceIte, Nat.reduceEqDiff, Nat.reduceAdd, Int.reduceLT, Int.reduceLE, Int.reduceNeg, Int.reduceBEq, Int.reduceBNe, Int.reduceEq, Nat.reduceLeDiff, Nat.reduceMul, Nat.reduceLT, *]
    | simp (singlePass := true) (maxDischargeDepth := 99) only [*, S2, Nat.reduceLT])
          refine CallsV.mono (sortIntsG (hR'.out.own i hiu)) fun v5 w5 hh => ?_
          obtain ⟨ho5, rfl, hown5⟩ := hh
          have hR5 := hR'.out.sorted hiu ho5 hown5
          rw [hst.out] at hR5
          have hx5 : Ext w2 w5 := Ext.trans' hx4'.out (OneRow.below hR'.out hiu ho5 hx4'.out.size)
          have N5 : Hid (Ext w2 w5 ∧ RowsB w5 w2.heap.size b6 us (srt ll (i + 1))) := ⟨hx5, hR5⟩
          have n5 : Now w5 := trivial
          clear hR5 hx5 hown5 ho5
          (repeat' first
    | ((with_reducible refine at_row ?_); refine row1_a fun _ _ _ _ _ _ _ => ?_)
    | with_reducible first | (first | apply alloc_k | apply row_k); intro _ _ _ _ _ _ | (first | apply fork | apply forkp) <;> intro _ | refine forke (fun _ => ?_) fun _ _ => ?_ | refine tail_k fun _ _ _ => ?_ | refine ext_k fun _ _ _ => ?_ | refine need_a ?_ | refine st_agg KR rfl ON fun _ _ _ _ => ?_ | refine wpd_q_a ?_
    | simp (maxDischargeDepth := 3) only [↓X, ↓Y, ↓Q, S1, ↓reduceIte, Nat.reduceEqDiff, Nat.reduceAdd, Int.reduceLT, Int.reduceLE, Int.reduceNeg, Int.reduceBEq, Int.reduceBNe, Int.reduceEq, Nat.reduceLeDiff, Nat.reduceMul, Nat.reduceLT, *]
    | simp (singlePass := true) (maxDischargeDepth := 99) only [*, S2, Nat.reduceLT])
          refine next_g hk4 hlt4 ?_
          (repeat' first
    | ((with_reducible refine at_row ?_); refine row1_a fun _ _ _ _ _ _ _ => ?_)
    | with_reducible first | (first | apply alloc_k | apply row_k); intro _ _ _ _ _ _ | (first | apply fork | apply forkp) <;> intro _ | refine forke (fun _ => ?_) fun _ _ => ?_ | refine tail_k fun _ _ _ => ?_ | refine ext_k fun _ _ _ => ?_ | refine need_a ?_ | refine st_agg KR rfl ON fun _ _ _ _ => ?_ | refine wpd_q_a ?_
    | simp (maxDischargeDepth := 3) only [↓X, ↓Y, ↓Q, S1, ↓reduceIte, Nat.reduceEqDiff, Nat.reduceAdd, Int.reduceLT, Int.reduceLE, Int.reduceNeg, Int.reduceBEq, Int.reduceBNe, Int.reduceEq, Nat.reduceLeDiff, Nat.reduceMul, Nat.reduceLT, *]
    | simp (singlePass := true) (maxDischargeDepth := 99) only [*, S2, Nat.reduceLT])
          all_goals first | exact N5.out | exact N5.out.2
        · rintro g4 w4 n4 ⟨hi4, hf4, hp4⟩
          simp (maxDischargeDepth := 3) only [U, ↓reduceIte, Nat.reduceEqDiff, *] at hf4
          obtain ⟨hx4, hR⟩ := hp4.out
          have hni4 : ¬ ((k : Int) < (k : Int)) := by omega
          have hxw : Ext w w4 := Ext.trans' hxx (hx4.mono hxx.size)
          rw [← hlk] at hR
          have hll := hR.toLL (by omega)
          rw [hul] at hll
          have hll' : Hid _ := hll
          have sw := hxw.st
          clear hp4 hR hll
          (repeat' first
    | ((with_reducible refine at_row ?_); refine row1_a fun _ _ _ _ _ _ _ => ?_)
    | with_reducible first | (first | apply alloc_k | apply row_k); intro _ _ _ _ _ _ | (first | apply fork | apply forkp) <;> intro _ | refine forke (fun _ => ?_) fun _ _ => ?_ | refine tail_k fun _ _ _ => ?_ | refine ext_k fun _ _ _ => ?_ | refine need_a ?_ | refine st_agg KR rfl ON fun _ _ _ _ => ?_ | refine wpd_q_a ?_
    | simp (maxDischargeDepth := 3) only [↓X, ↓Y, ↓Q, S1, ↓reduceIte, Nat.reduceEqDiff, Nat.reduceAdd, Int.reduceLT, Int.reduceLE, Int.reduceNeg, Int.reduceBEq, Int.reduceBNe, Int.reduceEq, Nat.reduceLeDiff, Nat.reduceMul, Nat.reduceLT, *]
    | simp (singlePass := true) (maxDischargeDepth := 99) only [*, S2, Nat.reduceLT])
          exact ⟨us, _, hll'.out, by rw [hval.out.2]; omega, hval.out.1⟩
end
end Go.Proofs.YteeaccnklkcchaaDoor
