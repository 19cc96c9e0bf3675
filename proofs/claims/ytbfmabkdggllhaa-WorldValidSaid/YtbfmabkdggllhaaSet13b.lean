/- The document's answer, layer 13: the layer world's Set. -/
import Derived.Test.YtbfmabkdggllhaaSet13
import Derived.Test.YtbfmabkdggllhaaRel
namespace Go.Proofs.Ytbfmabkdggllhaa
set_option linter.unusedSimpArgs false
set_option linter.unusedVariables false
open Go Go.RowKit
set_option maxRecDepth 100000
set_option linter.unusedSectionVars false
set_option maxHeartbeats 1000000
section
variable {w : World} {B B' : Nat} {hv rv hv' rv' : Value} {x y : WorldD}
theorem worldSet {host : Int} {h : StateD} (hB : B ≤ w.heap.size) (hx0 : WorldR w B hv rv x) (hl1 : x.hosts.length ≤ 1000000) (hl2 : x.replicas.length ≤ 1000000) : CallsV Try.prog 29 #[.agg #[hv, rv], intV host, stateV h] w fun v w' => Ext w w' ∧ ∃ u, v = .tuple #[u, intV (setE x host)] ∧ OwnW w.heap.size u w' (setW x host h) := by
  have hn : Now w := trivial
  have hx : Ext w w := Ext.refl w
  have hx' := hx0.sk hB
  have hX := hx'.2.2.2.2
  have hlen : x.hosts.length < 1000000000000 ∧ x.replicas.length < 1000000000000 := ⟨by omega, by omega⟩
  have hlen : Hid _ := hlen
  have hl1 : Hid _ := hl1
  have hl2 : Hid _ := hl2
  obtain ⟨sb, hsb⟩ : ∃ sb, Hid (sortedB x.replicas = sb) := ⟨_, rfl⟩
  have hso := fun w' (hb : Bl B w w') (hB' : B ≤ w'.heap.size) => worldSorted hB' (WorldR.r (hX w' hb))
  rw [hsb.out] at hso
  have hbad : ¬ setOk x host = true → Hid (setE x host = 1 ∧ setW x host h = noW) := fun hh => ⟨by simp [setE, hh], by simp [setW, hh]⟩
  have hgood : setOk x host = true → Hid (setE x host = 0 ∧ setW x host h = ⟨x.hosts.set host.toNat h, x.replicas⟩) := fun hh => ⟨by simp [setE, hh], by simp [setW, hh]⟩
  have hok : setOk x host = (sb && idx host x.hosts.length) := by rw [setOk, hsb.out]
  have hbt : btw host 0 (IntKind.i64.wrap ((x.hosts.length : Int) - 1)) = idx host x.hosts.length := by
    have := hlen.out
    have e : IntKind.i64.wrap ((x.hosts.length : Int) - 1) = (x.hosts.length : Int) - 1 := by rw [wrap_i64_id] <;> omega
    rw [e, Bool.eq_iff_iff]
    simp only [btw, idx, Bool.and_eq_true, decide_eq_true_eq]
    omega
  have hidx : idx host x.hosts.length = true → ∃ k : Nat, host = (k : Int) ∧ k < x.hosts.length := fun h => by
    simp only [idx, Bool.and_eq_true, decide_eq_true_eq] at h
    exact ⟨host.toNat, by omega, by omega⟩
  generalize setE x host = e at *
  generalize setW x host h = W at *
  generalize setOk x host = ok at *
  generalize idx host x.hosts.length = c at *
  subst hok
  have hbad : Hid _ := hbad
  have hgood : Hid _ := hgood
  have hidx : Hid _ := hidx
  clear hsb
  (refine callsV_of Try.func29 rfl (by kernel_rfl) (by kernel_rfl) ?_; rw [Try.results29])
  cases sb
  · obtain ⟨rfl, rfl⟩ := (hbad.out (by simp)).out
    clear hbad hgood
    (repeat' first
    | ((with_reducible refine wpd_at 3 ?_); refine wpd_hold ?_)
    | with_reducible refine alloc_k fun _ _ _ _ _ _ => ?_
    | ((with_reducible refine at_row ?_); refine row1_k (by rfl) (by decide) fun _ _ _ _ _ _ _ => ?_)
    | with_reducible refine row_k fun _ _ _ _ _ _ => ?_
    | with_reducible refine fork (fun _ => ?_) (fun _ => ?_)
    | with_reducible refine forkp (fun _ => ?_) (fun _ => ?_)
    | with_reducible refine forke (fun _ => ?_) (fun _ _ => ?_)
    | with_reducible refine tail_k fun _ _ _ => ?_
    | with_reducible refine ext_k fun _ _ _ => ?_
    | with_reducible refine need (by first | kernel_rfl | omega | assumption) ?_
    | with_reducible refine st_agg (by kernel_rfl) rfl (by simp only [natV, intV, S3, *]) fun _ _ _ _ => ?_
    | with_reducible refine wpd_quiet_lit (by kernel_rfl) (by kernel_rfl) (by kernel_rfl) ?_
    | ((with_reducible refine at_f 48 ?_); refine ret_k (hso _ FR FR) fun _ _ _ => ?_)
    | ((with_reducible refine at_f 38 ?_); refine ret_k (worldBetween) fun _ _ _ => ?_)
    | simp (maxDischargeDepth := 3) only [↓X, ↓Y, ↓Q, S1, ↓reduceIte, Nat.reduceEqDiff, Nat.reduceAdd, Int.reduceLT, Int.reduceLE, Int.reduceNeg, Int.reduceBEq, Int.reduceBNe, Int.reduceEq, Nat.reduceLeDiff, Nat.reduceMul, Nat.reduceLT, natV, intV, putAt, idxOk, flatP, *, stateV]
    | simp (singlePass := true) (maxDischargeDepth := 99) only [*, S2, Nat.reduceLT, stateV])
    all_goals exact ⟨_, rfl, OwnW.none _ _⟩
  · cases c
    · obtain ⟨rfl, rfl⟩ := (hbad.out (by simp)).out
      clear hbad hgood
      (repeat' first
    | ((with_reducible refine wpd_at 3 ?_); refine wpd_hold ?_)
    | with_reducible refine alloc_k fun _ _ _ _ _ _ => ?_
    | ((with_reducible refine at_row ?_); refine row1_k (by rfl) (by decide) fun _ _ _ _ _ _ _ => ?_)
    | with_reducible refine row_k fun _ _ _ _ _ _ => ?_
    | with_reducible refine fork (fun _ => ?_) (fun _ => ?_)
    | with_reducible refine forkp (fun _ => ?_) (fun _ => ?_)
    | with_reducible refine forke (fun _ => ?_) (fun _ _ => ?_)
    | with_reducible refine tail_k fun _ _ _ => ?_
    | with_reducible refine ext_k fun _ _ _ => ?_
    | with_reducible refine need (by first | kernel_rfl | omega | assumption) ?_
    | with_reducible refine st_agg (by kernel_rfl) rfl (by simp only [natV, intV, S3, *]) fun _ _ _ _ => ?_
    | with_reducible refine wpd_quiet_lit (by kernel_rfl) (by kernel_rfl) (by kernel_rfl) ?_
    | ((with_reducible refine at_f 48 ?_); refine ret_k (hso _ FR FR) fun _ _ _ => ?_)
    | ((with_reducible refine at_f 38 ?_); refine ret_k (worldBetween) fun _ _ _ => ?_)
    | simp (maxDischargeDepth := 3) only [↓X, ↓Y, ↓Q, S1, ↓reduceIte, Nat.reduceEqDiff, Nat.reduceAdd, Int.reduceLT, Int.reduceLE, Int.reduceNeg, Int.reduceBEq, Int.reduceBNe, Int.reduceEq, Nat.reduceLeDiff, Nat.reduceMul, Nat.reduceLT, natV, intV, putAt, idxOk, flatP, *, stateV]
    | simp (singlePass := true) (maxDischargeDepth := 99) only [*, S2, Nat.reduceLT, stateV])
      all_goals exact ⟨_, rfl, OwnW.none _ _⟩
    · obtain ⟨rfl, rfl⟩ := (hgood.out (by simp)).out
      obtain ⟨k, rfl, hk⟩ := hidx.out rfl
      clear hbad hgood
      (repeat' first
    | ((with_reducible refine wpd_at 3 ?_); refine wpd_hold ?_)
    | with_reducible refine alloc_k fun _ _ _ _ _ _ => ?_
    | ((with_reducible refine at_row ?_); refine row1_k (by rfl) (by decide) fun _ _ _ _ _ _ _ => ?_)
    | with_reducible refine row_k fun _ _ _ _ _ _ => ?_
    | with_reducible refine fork (fun _ => ?_) (fun _ => ?_)
    | with_reducible refine forkp (fun _ => ?_) (fun _ => ?_)
    | with_reducible refine forke (fun _ => ?_) (fun _ _ => ?_)
    | with_reducible refine tail_k fun _ _ _ => ?_
    | with_reducible refine ext_k fun _ _ _ => ?_
    | with_reducible refine need (by first | kernel_rfl | omega | assumption) ?_
    | with_reducible refine st_agg (by kernel_rfl) rfl (by simp only [natV, intV, S3, *]) fun _ _ _ _ => ?_
    | with_reducible refine wpd_quiet_lit (by kernel_rfl) (by kernel_rfl) (by kernel_rfl) ?_
    | ((with_reducible refine at_f 48 ?_); refine ret_k (hso _ FR FR) fun _ _ _ => ?_)
    | ((with_reducible refine at_f 38 ?_); refine ret_k (worldBetween) fun _ _ _ => ?_)
    | simp (maxDischargeDepth := 3) only [↓X, ↓Y, ↓Q, S1, ↓reduceIte, Nat.reduceEqDiff, Nat.reduceAdd, Int.reduceLT, Int.reduceLE, Int.reduceNeg, Int.reduceBEq, Int.reduceBNe, Int.reduceEq, Nat.reduceLeDiff, Nat.reduceMul, Nat.reduceLT, natV, intV, putAt, idxOk, flatP, *, stateV]
    | simp (singlePass := true) (maxDischargeDepth := 99) only [*, S2, Nat.reduceLT, stateV])
      rename_i b3 w3 n3 k3 s3 q3 b5 w5 n5 k5 s5 q5 b6 w6 n6 k6 s6 q6 wa na sa wb nb sb
      unfold wpdH
      refine wpd_rel 7 (fun i v w' => match i with
        | 0 => v = .agg #[hv, rv]
        | 1 => OwnH w' wb.heap.size v x.hosts
        | 2 => v = .pointer (some ⟨b3, 1, none⟩)
        | 3 => v = rv
        | 4 => OwnP w' wb.heap.size v x.replicas
        | 5 => ∃ h r, v = .agg #[h, r] ∧ OwnH w' wb.heap.size h x.hosts ∧ OwnP w' wb.heap.size r x.replicas
        | 6 => ∃ b, v = .pointer (some ⟨b, 0, none⟩) ∧ Blk w' b 36 [.slice none 0 0, .slice none 0 0] ∧ wb.heap.size ≤ b
        | _ => False) (by kernel_rfl) (by kernel_rfl) (by kernel_rfl) ?_ ?_ ?_
      · intro i v w1 w2 hR hx9
        match i, hR with
        | 0, h => exact h
        | 1, h => exact Own.ext h hx9
        | 2, h => exact h
        | 3, h => exact h
        | 4, h => exact Own.ext h hx9
        | 5, ⟨h, r, e, h1, h2⟩ => exact ⟨h, r, e, h1.ext hx9, h2.ext hx9⟩
        | 6, ⟨b, e, h1, h2⟩ => exact ⟨b, e, h1.ext hx9, h2⟩
      · intro i o hi ho g w9 hx9 hdep hag
        have s9 := hx9.st
        have n9 : Now w9 := trivial
        have r9 := Ext.refl w9
        have z9 := hx9.size
        rcases i with _|_|_|_|_|_|_|i
        · have e := Option.some.inj ho
          subst e
          have a3 := hag.at 3 (by kernel_rfl)
          simp only [U, ↓reduceIte, Nat.reduceEqDiff] at a3
          clear hag hdep ho
          simp only [relStep, guardOn, if_true]
          (repeat' first
    | with_reducible refine alloc_k fun _ _ _ _ _ _ => ?_
    | ((with_reducible refine at_row ?_); refine row1_k (by rfl) (by decide) fun _ _ _ _ _ _ _ => ?_)
    | with_reducible refine row_k fun _ _ _ _ _ _ => ?_
    | with_reducible refine fork (fun _ => ?_) (fun _ => ?_)
    | with_reducible refine forkp (fun _ => ?_) (fun _ => ?_)
    | with_reducible refine forke (fun _ => ?_) (fun _ _ => ?_)
    | with_reducible refine tail_k fun _ _ _ => ?_
    | with_reducible refine ext_k fun _ _ _ => ?_
    | with_reducible refine need (by first | kernel_rfl | omega | assumption) ?_
    | with_reducible refine st_agg (by kernel_rfl) rfl (by simp only [natV, intV, S3, *]) fun _ _ _ _ => ?_
    | with_reducible refine wpd_quiet_lit (by kernel_rfl) (by kernel_rfl) (by kernel_rfl) ?_
    | simp (maxDischargeDepth := 3) only [↓X, ↓Y, ↓Q, S1, ↓reduceIte, Nat.reduceEqDiff, Nat.reduceAdd, Int.reduceLT, Int.reduceLE, Int.reduceNeg, Int.reduceBEq, Int.reduceBNe, Int.reduceEq, Nat.reduceLeDiff, Nat.reduceMul, Nat.reduceLT, natV, intV, putAt, idxOk, flatP, *]
    | simp (singlePass := true) (maxDischargeDepth := 99) only [*, S2, Nat.reduceLT])
        · have e := Option.some.inj ho
          subst e
          have d0 : g 23 = .agg #[hv, rv] := hdep ⟨0, .data⟩ (by simp) rfl _ _ rfl rfl
          clear hag hdep ho
          simp only [relStep, guardOn, if_true]
          (repeat' first
    | with_reducible refine alloc_k fun _ _ _ _ _ _ => ?_
    | ((with_reducible refine at_row ?_); refine row1_k (by rfl) (by decide) fun _ _ _ _ _ _ _ => ?_)
    | with_reducible refine row_k fun _ _ _ _ _ _ => ?_
    | with_reducible refine fork (fun _ => ?_) (fun _ => ?_)
    | with_reducible refine forkp (fun _ => ?_) (fun _ => ?_)
    | with_reducible refine forke (fun _ => ?_) (fun _ _ => ?_)
    | with_reducible refine tail_k fun _ _ _ => ?_
    | with_reducible refine ext_k fun _ _ _ => ?_
    | with_reducible refine need (by first | kernel_rfl | omega | assumption) ?_
    | with_reducible refine st_agg (by kernel_rfl) rfl (by simp only [natV, intV, S3, *]) fun _ _ _ _ => ?_
    | with_reducible refine wpd_quiet_lit (by kernel_rfl) (by kernel_rfl) (by kernel_rfl) ?_
    | simp (maxDischargeDepth := 3) only [↓X, ↓Y, ↓Q, S1, ↓reduceIte, Nat.reduceEqDiff, Nat.reduceAdd, Int.reduceLT, Int.reduceLE, Int.reduceNeg, Int.reduceBEq, Int.reduceBNe, Int.reduceEq, Nat.reduceLeDiff, Nat.reduceMul, Nat.reduceLT, natV, intV, putAt, idxOk, flatP, *]
    | simp (singlePass := true) (maxDischargeDepth := 99) only [*, S2, Nat.reduceLT])
          refine CallsV.mono (worldHosts (B := B) FR (hX _ FR) hl1.out) fun v w10 hh => ⟨hh.1, Own.more hh.2 z9⟩
        · have e := Option.some.inj ho
          subst e
          have a3 := hag.at 3 (by kernel_rfl)
          simp only [U, ↓reduceIte, Nat.reduceEqDiff] at a3
          clear hag hdep ho
          simp only [relStep, guardOn, if_true]
          (repeat' first
    | with_reducible refine alloc_k fun _ _ _ _ _ _ => ?_
    | ((with_reducible refine at_row ?_); refine row1_k (by rfl) (by decide) fun _ _ _ _ _ _ _ => ?_)
    | with_reducible refine row_k fun _ _ _ _ _ _ => ?_
    | with_reducible refine fork (fun _ => ?_) (fun _ => ?_)
    | with_reducible refine forkp (fun _ => ?_) (fun _ => ?_)
    | with_reducible refine forke (fun _ => ?_) (fun _ _ => ?_)
    | with_reducible refine tail_k fun _ _ _ => ?_
    | with_reducible refine ext_k fun _ _ _ => ?_
    | with_reducible refine need (by first | kernel_rfl | omega | assumption) ?_
    | with_reducible refine st_agg (by kernel_rfl) rfl (by simp only [natV, intV, S3, *]) fun _ _ _ _ => ?_
    | with_reducible refine wpd_quiet_lit (by kernel_rfl) (by kernel_rfl) (by kernel_rfl) ?_
    | simp (maxDischargeDepth := 3) only [↓X, ↓Y, ↓Q, S1, ↓reduceIte, Nat.reduceEqDiff, Nat.reduceAdd, Int.reduceLT, Int.reduceLE, Int.reduceNeg, Int.reduceBEq, Int.reduceBNe, Int.reduceEq, Nat.reduceLeDiff, Nat.reduceMul, Nat.reduceLT, natV, intV, putAt, idxOk, flatP, *]
    | simp (singlePass := true) (maxDischargeDepth := 99) only [*, S2, Nat.reduceLT])
        · have e := Option.some.inj ho
          subst e
          have d2 : g 25 = .pointer (some ⟨b3, 1, none⟩) := hdep ⟨2, .data⟩ (by simp) rfl _ _ rfl rfl
          clear hag hdep ho
          simp only [relStep, guardOn, if_true]
          (repeat' first
    | with_reducible refine alloc_k fun _ _ _ _ _ _ => ?_
    | ((with_reducible refine at_row ?_); refine row1_k (by rfl) (by decide) fun _ _ _ _ _ _ _ => ?_)
    | with_reducible refine row_k fun _ _ _ _ _ _ => ?_
    | with_reducible refine fork (fun _ => ?_) (fun _ => ?_)
    | with_reducible refine forkp (fun _ => ?_) (fun _ => ?_)
    | with_reducible refine forke (fun _ => ?_) (fun _ _ => ?_)
    | with_reducible refine tail_k fun _ _ _ => ?_
    | with_reducible refine ext_k fun _ _ _ => ?_
    | with_reducible refine need (by first | kernel_rfl | omega | assumption) ?_
    | with_reducible refine st_agg (by kernel_rfl) rfl (by simp only [natV, intV, S3, *]) fun _ _ _ _ => ?_
    | with_reducible refine wpd_quiet_lit (by kernel_rfl) (by kernel_rfl) (by kernel_rfl) ?_
    | simp (maxDischargeDepth := 3) only [↓X, ↓Y, ↓Q, S1, ↓reduceIte, Nat.reduceEqDiff, Nat.reduceAdd, Int.reduceLT, Int.reduceLE, Int.reduceNeg, Int.reduceBEq, Int.reduceBNe, Int.reduceEq, Nat.reduceLeDiff, Nat.reduceMul, Nat.reduceLT, natV, intV, putAt, idxOk, flatP, *]
    | simp (singlePass := true) (maxDischargeDepth := 99) only [*, S2, Nat.reduceLT])
        · have e := Option.some.inj ho
          subst e
          have d3 : g 26 = rv := hdep ⟨3, .data⟩ (by simp) rfl _ _ rfl rfl
          clear hag hdep ho
          simp only [relStep, guardOn, if_true]
          (repeat' first
    | with_reducible refine alloc_k fun _ _ _ _ _ _ => ?_
    | ((with_reducible refine at_row ?_); refine row1_k (by rfl) (by decide) fun _ _ _ _ _ _ _ => ?_)
    | with_reducible refine row_k fun _ _ _ _ _ _ => ?_
    | with_reducible refine fork (fun _ => ?_) (fun _ => ?_)
    | with_reducible refine forkp (fun _ => ?_) (fun _ => ?_)
    | with_reducible refine forke (fun _ => ?_) (fun _ _ => ?_)
    | with_reducible refine tail_k fun _ _ _ => ?_
    | with_reducible refine ext_k fun _ _ _ => ?_
    | with_reducible refine need (by first | kernel_rfl | omega | assumption) ?_
    | with_reducible refine st_agg (by kernel_rfl) rfl (by simp only [natV, intV, S3, *]) fun _ _ _ _ => ?_
    | with_reducible refine wpd_quiet_lit (by kernel_rfl) (by kernel_rfl) (by kernel_rfl) ?_
    | simp (maxDischargeDepth := 3) only [↓X, ↓Y, ↓Q, S1, ↓reduceIte, Nat.reduceEqDiff, Nat.reduceAdd, Int.reduceLT, Int.reduceLE, Int.reduceNeg, Int.reduceBEq, Int.reduceBNe, Int.reduceEq, Nat.reduceLeDiff, Nat.reduceMul, Nat.reduceLT, natV, intV, putAt, idxOk, flatP, *]
    | simp (singlePass := true) (maxDischargeDepth := 99) only [*, S2, Nat.reduceLT])
          refine CallsV.mono (slicesCloneP (B := B) FR (WorldR.r (hX _ FR)) hl2.out) fun v w10 hh => ⟨hh.1, Own.more hh.2 z9⟩
        · have e := Option.some.inj ho
          subst e
          have d1 : OwnH w9 wb.heap.size (g 24) x.hosts := hdep ⟨1, .data⟩ (by simp) rfl _ _ rfl rfl
          have d4 : OwnP w9 wb.heap.size (g 27) x.replicas := hdep ⟨4, .data⟩ (by simp) rfl _ _ rfl rfl
          have o1 := d1.o
          have o4 := d4.o
          clear hag hdep ho
          simp only [relStep, guardOn, if_true]
          (repeat' first
    | with_reducible refine alloc_k fun _ _ _ _ _ _ => ?_
    | ((with_reducible refine at_row ?_); refine row1_k (by rfl) (by decide) fun _ _ _ _ _ _ _ => ?_)
    | with_reducible refine row_k fun _ _ _ _ _ _ => ?_
    | with_reducible refine fork (fun _ => ?_) (fun _ => ?_)
    | with_reducible refine forkp (fun _ => ?_) (fun _ => ?_)
    | with_reducible refine forke (fun _ => ?_) (fun _ _ => ?_)
    | with_reducible refine tail_k fun _ _ _ => ?_
    | with_reducible refine ext_k fun _ _ _ => ?_
    | with_reducible refine need (by first | kernel_rfl | omega | assumption) ?_
    | with_reducible refine st_agg (by kernel_rfl) rfl (by simp only [natV, intV, S3, *]) fun _ _ _ _ => ?_
    | with_reducible refine wpd_quiet_lit (by kernel_rfl) (by kernel_rfl) (by kernel_rfl) ?_
    | simp (maxDischargeDepth := 3) only [↓X, ↓Y, ↓Q, S1, ↓reduceIte, Nat.reduceEqDiff, Nat.reduceAdd, Int.reduceLT, Int.reduceLE, Int.reduceNeg, Int.reduceBEq, Int.reduceBNe, Int.reduceEq, Nat.reduceLeDiff, Nat.reduceMul, Nat.reduceLT, natV, intV, putAt, idxOk, flatP, *]
    | simp (singlePass := true) (maxDischargeDepth := 99) only [*, S2, Nat.reduceLT])
          exact ⟨_, _, rfl, d1, d4⟩
        · have e := Option.some.inj ho
          subst e
          clear hag hdep ho
          simp only [relStep, guardOn, if_true]
          (repeat' first
    | with_reducible refine alloc_k fun _ _ _ _ _ _ => ?_
    | ((with_reducible refine at_row ?_); refine row1_k (by rfl) (by decide) fun _ _ _ _ _ _ _ => ?_)
    | with_reducible refine row_k fun _ _ _ _ _ _ => ?_
    | with_reducible refine fork (fun _ => ?_) (fun _ => ?_)
    | with_reducible refine forkp (fun _ => ?_) (fun _ => ?_)
    | with_reducible refine forke (fun _ => ?_) (fun _ _ => ?_)
    | with_reducible refine tail_k fun _ _ _ => ?_
    | with_reducible refine ext_k fun _ _ _ => ?_
    | with_reducible refine need (by first | kernel_rfl | omega | assumption) ?_
    | with_reducible refine st_agg (by kernel_rfl) rfl (by simp only [natV, intV, S3, *]) fun _ _ _ _ => ?_
    | with_reducible refine wpd_quiet_lit (by kernel_rfl) (by kernel_rfl) (by kernel_rfl) ?_
    | simp (maxDischargeDepth := 3) only [↓X, ↓Y, ↓Q, S1, ↓reduceIte, Nat.reduceEqDiff, Nat.reduceAdd, Int.reduceLT, Int.reduceLE, Int.reduceNeg, Int.reduceBEq, Int.reduceBNe, Int.reduceEq, Nat.reduceLeDiff, Nat.reduceMul, Nat.reduceLT, natV, intV, putAt, idxOk, flatP, *]
    | simp (singlePass := true) (maxDischargeDepth := 99) only [*, S2, Nat.reduceLT])
          rename_i b10 w10 n10 k10 s10 q10
          exact ⟨_, rfl, k10.2.1 _ k10.2.2.1, FR⟩
        · omega
      · intro g w9 hx9 hR hag
        have s9 := hx9.st
        have n9 : Now w9 := trivial
        have r9 := Ext.refl w9
        have z9 := hx9.size
        obtain ⟨h2, r2, e28, hown1, hown2⟩ : ∃ h r, g 28 = .agg #[h, r] ∧ OwnH w9 wb.heap.size h x.hosts ∧ OwnP w9 wb.heap.size r x.replicas := hR 5 _ _ (by decide) rfl rfl
        obtain ⟨b8, e8, hb8, q8⟩ : ∃ b, g 8 = .pointer (some ⟨b, 0, none⟩) ∧ Blk w9 b 36 [.slice none 0 0, .slice none 0 0] ∧ wb.heap.size ≤ b := hR 6 _ _ (by decide) rfl rfl
        have a1 := hag.at 1 (by kernel_rfl)
        have a5 := hag.at 5 (by kernel_rfl)
        have a6 := hag.at 6 (by kernel_rfl)
        simp only [U, ↓reduceIte, Nat.reduceEqDiff, initF, U2, List.getElem?_cons_zero, List.getElem?_cons_succ] at a1 a5 a6
        clear hag hR
        have k8 := hb8.bk
        have nw8 := Nw.of q8
        have o1 := hown1.o
        have o2 := hown2.o
        have v1 := (hown1.slN (f := stateC)).v (Nat.le_refl _)
        rw [show (fun x => Value.agg (stateC x).toArray) = stateV from rfl] at v1
        have ne1 : ¬ blockOf h2 = some b8 := by rw [hown1.block]; exact hown1.ne hb8 (by decide)
        have ne2 : ¬ blockOf r2 = some b8 := by rw [hown2.block]; exact hown2.ne hb8 (by decide)
        simp only [List.drop_succ_cons, List.drop_zero]
        (repeat' first
    | with_reducible refine alloc_k fun _ _ _ _ _ _ => ?_
    | ((with_reducible refine at_row ?_); refine row1_k (by rfl) (by decide) fun _ _ _ _ _ _ _ => ?_)
    | with_reducible refine row_k fun _ _ _ _ _ _ => ?_
    | with_reducible refine fork (fun _ => ?_) (fun _ => ?_)
    | with_reducible refine forkp (fun _ => ?_) (fun _ => ?_)
    | with_reducible refine forke (fun _ => ?_) (fun _ _ => ?_)
    | with_reducible refine tail_k fun _ _ _ => ?_
    | with_reducible refine ext_k fun _ _ _ => ?_
    | with_reducible refine need (by first | kernel_rfl | omega | assumption) ?_
    | with_reducible refine st_agg (by kernel_rfl) rfl (by simp only [natV, intV, S3, *]) fun _ _ _ _ => ?_
    | with_reducible refine wpd_quiet_lit (by kernel_rfl) (by kernel_rfl) (by kernel_rfl) ?_
    | simp (maxDischargeDepth := 3) only [↓X, ↓Y, ↓Q, S1, ↓reduceIte, Nat.reduceEqDiff, Nat.reduceAdd, Int.reduceLT, Int.reduceLE, Int.reduceNeg, Int.reduceBEq, Int.reduceBNe, Int.reduceEq, Nat.reduceLeDiff, Nat.reduceMul, Nat.reduceLT, natV, intV, putAt, idxOk, flatP, *, stateV]
    | simp (singlePass := true) (maxDischargeDepth := 99) only [*, S2, Nat.reduceLT, stateV])
        have hne1 := fun b hb => own_ne (b := b) hown1 hown2 (by decide) hb
        refine own_set (i := k) (vs := stateC h) (by kernel_rfl) (by decide) (o1.1 _ FR) (by simpa using hk) rfl (stateC_one h) fun b9 w10 n10 e9 hb9 hl9 hown9 s10 c10 => ?_
        have nw9 := Nw.of hb9
        have hne9 := hne1 b9 e9
        have n98 : ¬ b9 = b8 := by rintro rfl; exact ne1 e9
        have n89 : ¬ b8 = b9 := fun h => n98 h.symm
        have o9 := hown9.o
        rw [← List.map_set] at o9
        clear e9 hne1 hown1 hown2 hown9 o1 v1
        (repeat' first
    | with_reducible refine alloc_k fun _ _ _ _ _ _ => ?_
    | ((with_reducible refine at_row ?_); refine row1_k (by rfl) (by decide) fun _ _ _ _ _ _ _ => ?_)
    | with_reducible refine row_k fun _ _ _ _ _ _ => ?_
    | with_reducible refine fork (fun _ => ?_) (fun _ => ?_)
    | with_reducible refine forkp (fun _ => ?_) (fun _ => ?_)
    | with_reducible refine forke (fun _ => ?_) (fun _ _ => ?_)
    | with_reducible refine tail_k fun _ _ _ => ?_
    | with_reducible refine ext_k fun _ _ _ => ?_
    | with_reducible refine need (by first | kernel_rfl | omega | assumption) ?_
    | with_reducible refine st_agg (by kernel_rfl) rfl (by simp only [natV, intV, S3, *]) fun _ _ _ _ => ?_
    | with_reducible refine wpd_quiet_lit (by kernel_rfl) (by kernel_rfl) (by kernel_rfl) ?_
    | simp (maxDischargeDepth := 3) only [↓X, ↓Y, ↓Q, S1, ↓reduceIte, Nat.reduceEqDiff, Nat.reduceAdd, Int.reduceLT, Int.reduceLE, Int.reduceNeg, Int.reduceBEq, Int.reduceBNe, Int.reduceEq, Nat.reduceLeDiff, Nat.reduceMul, Nat.reduceLT, natV, intV, putAt, idxOk, flatP, *]
    | simp (singlePass := true) (maxDischargeDepth := 99) only [*, S2, Nat.reduceLT])
        exact ⟨_, rfl, _, _, rfl, Own.more (o9.1 _ FR) FR, Own.more (o2.1 _ FR) FR⟩
end
end Go.Proofs.Ytbfmabkdggllhaa
