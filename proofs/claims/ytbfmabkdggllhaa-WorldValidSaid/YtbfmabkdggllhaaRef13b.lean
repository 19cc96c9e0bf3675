/- The document's answer, layer 13, and the layer world: ValidWish, Valid, Where, Runs, Has, Used. -/
import Derived.Test.YtbfmabkdggllhaaRef13
namespace Go.Proofs.Ytbfmabkdggllhaa
set_option linter.unusedSimpArgs false
set_option linter.unusedVariables false
open Go Go.RowKit
set_option maxRecDepth 100000
set_option linter.unusedSectionVars false
set_option maxHeartbeats 1000000
def stateB (x : StateD) : Bool := decide (x.phase ≤ 4) && btw x.firmware 0 1000000
def replB (n m : Int) (r : ReplicaD) : Bool := idx r.service n && idx r.host m
def validB (s : SiteD) (wl : List ServiceD) (x : WorldD) : Bool := siteB s && wishB wl && decide (x.hosts.length = s.hosts.length) && decide (x.replicas.length ≤ 24) && sortedB x.replicas && x.hosts.all stateB && x.replicas.all (replB wl.length s.hosts.length)
def whereF (svc : Int) (l : List ReplicaD) : List Int := (l.filter fun r => r.service == svc).map (·.host)
def whereL (x : WorldD) (svc : Int) : List Int := whereF svc x.replicas
def coresAt (wl : List ServiceD) (i : Int) : Int := ((wl[i.toNat]?).map (·.cores)).getD 0
def usedF (wl : List ServiceD) (host : Int) : Int → List ReplicaD → Int
  | acc, [] => acc
  | acc, r :: t => usedF wl host (if r.host = host ∧ idx r.service wl.length = true then IntKind.i64.wrap (acc + coresAt wl r.service) else acc) t
def usedI (wl : List ServiceD) (x : WorldD) (host : Int) : Int := usedF wl host 0 x.replicas
theorem asc_cons {n i c a : Int} {r : List Int} : ascB n i c (a :: r) = (decide (c < a) && decide (a < n) && !(a == i) && ascB n i a r) := rfl
def srvHead (x : ServiceD) : Bool := btw x.cores 1 1000 && btw x.replicas 0 24 && btw x.least 0 x.replicas && btw x.firmware 0 1000000 && spreadB x
theorem serviceB_eq (n i : Int) (x : ServiceD) : serviceB n i x = (srvHead x && ascB n i (-1) x.apart && ascB n i (-1) (x.near.map (·.service)) && x.near.all fun k => btw k.latency 0 1000000) := rfl
section
variable {w : World} {B : Nat} {u : SiteVs} {s : SiteD} {wv hv rv : Value} {l : List SrvV} {x : WorldD}
theorem ref13service (hB : B ≤ w.heap.size) (hl : WishR w B wv l) {q : Nat} (hq : q < l.length) : Ret Try.prog 46 #[.agg #[wv], natV q] w (.bool (serviceB l.length q l[q].x)) := by
  have hn : Now w := trivial
  have hx : Ext w w := Ext.refl w
  have hl' := hl.sk hB
  have ha := hl.a _ (List.getElem_mem hq)
  have hn' := hl.n _ (List.getElem_mem hq)
  have ha' := ha.k hB
  have hn2 := hn'.k hB
  generalize hsrv : l[q] = sv at *
  have hone1 := ha.one
  have hone2 := hn'.one
  (refine callsV_of Try.func46 rfl (by kernel_rfl) (by kernel_rfl) ?_; rw [Try.results46])
  have hfal : srvHead sv.x = false → Value.bool false = Value.bool (serviceB l.length q sv.x) := fun h => by rw [serviceB_eq, h]; simp only [Bool.false_and]
  (repeat' first
    | with_reducible refine alloc_k fun _ _ _ _ _ _ => ?_
    | ((with_reducible refine at_row ?_); refine row1_k (by rfl) (by decide) fun _ _ _ _ _ _ _ => ?_)
    | with_reducible refine row_k fun _ _ _ _ _ _ => ?_
    | with_reducible refine fork (fun _ => ?_) (fun _ => ?_)
    | with_reducible refine forkp (fun _ => ?_) (fun _ => ?_)
    | with_reducible refine forke (fun _ => ?_) (fun _ _ => ?_)
    | with_reducible refine tail_k fun _ _ _ => ?_
    | with_reducible refine ext_k fun _ _ _ => ?_
    | with_reducible refine need (by first | kernel_rfl | omega | assumption) ?_
    | with_reducible refine st_agg (by kernel_rfl) rfl (by simp only [natV, intV, S3, *]) fun _ _ _ _ => ?_
    | with_reducible refine wpd_quiet_lit (by kernel_rfl) (by kernel_rfl) (by kernel_rfl) ?_
    | simp (maxDischargeDepth := 3) only [↓X, ↓Y, ↓Q, S1, ↓reduceIte, Nat.reduceEqDiff, Nat.reduceAdd, Int.reduceLT, Int.reduceLE, Int.reduceNeg, Int.reduceBEq, Int.reduceBNe, Int.reduceEq, Nat.reduceLeDiff, Nat.reduceMul, Nat.reduceLT, natV, intV, putAt, idxOk, flatP, *, srvV, srvC]
    | simp (singlePass := true) (maxDischargeDepth := 99) only [*, S2, Nat.reduceLT, srvV, srvC])
  all_goals (try (refine hfal (Bool.eq_false_iff.2 fun h => ?_); simp only [srvHead, btw, spreadB, Bool.and_eq_true, decide_eq_true_eq] at h; split at h <;> (try simp only [beq_iff_eq, Bool.and_eq_true, decide_eq_true_eq] at h) <;> omega))
  all_goals
    have hhead : srvHead sv.x = true := by
      simp only [srvHead, btw, spreadB, Bool.and_eq_true, decide_eq_true_eq]
      refine ⟨by omega, ?_⟩
      split <;> (try simp only [beq_iff_eq, Bool.and_eq_true, decide_eq_true_eq]) <;> omega
    refine loop_k (sv.x.apart.length) (fun g0 k g _ => g 7 = .int .i64 k ∧ (g 1 = g0 1 ∧ g 2 = g0 2 ∧ g 5 = g0 5) ∧ ∃ c : Int, g 6 = .int .i64 c ∧ Hid (ascB l.length q c (sv.x.apart.drop k) = ascB l.length q (-1) sv.x.apart)) (by kernel_rfl) (ha.max_) ?_ ?_ ?_
    · (repeat' first
    | with_reducible refine alloc_k fun _ _ _ _ _ _ => ?_
    | ((with_reducible refine at_row ?_); refine row1_k (by rfl) (by decide) fun _ _ _ _ _ _ _ => ?_)
    | with_reducible refine row_k fun _ _ _ _ _ _ => ?_
    | with_reducible refine fork (fun _ => ?_) (fun _ => ?_)
    | with_reducible refine forkp (fun _ => ?_) (fun _ => ?_)
    | with_reducible refine forke (fun _ => ?_) (fun _ _ => ?_)
    | with_reducible refine tail_k fun _ _ _ => ?_
    | with_reducible refine ext_k fun _ _ _ => ?_
    | with_reducible refine need (by first | kernel_rfl | omega | assumption) ?_
    | with_reducible refine st_agg (by kernel_rfl) rfl (by simp only [natV, intV, S3, *]) fun _ _ _ _ => ?_
    | with_reducible refine wpd_quiet_lit (by kernel_rfl) (by kernel_rfl) (by kernel_rfl) ?_
    | simp (maxDischargeDepth := 3) only [↓X, ↓Y, ↓Q, S1, ↓reduceIte, Nat.reduceEqDiff, Nat.reduceAdd, Int.reduceLT, Int.reduceLE, Int.reduceNeg, Int.reduceBEq, Int.reduceBNe, Int.reduceEq, Nat.reduceLeDiff, Nat.reduceMul, Nat.reduceLT, natV, intV, putAt, idxOk, flatP, *, List.take_zero, List.all_nil, List.any_nil]
    | simp (singlePass := true) (maxDischargeDepth := 99) only [*, S2, Nat.reduceLT, List.take_zero, List.all_nil, List.any_nil])
      exact ⟨-1, rfl, rfl⟩
    · rintro k m g wk hk hlt _ _ _ hw ⟨hi, hf, hp⟩
      simp (maxDischargeDepth := 3) only [U, ↓reduceIte, Nat.reduceEqDiff, *] at hf
      obtain ⟨c, h6, hm⟩ := hp
      have hm := hm.out
      rw [List.drop_eq_getElem_cons hlt, asc_cons] at hm
      have hm : Hid _ := hm
      (repeat' first
    | with_reducible refine alloc_k fun _ _ _ _ _ _ => ?_
    | ((with_reducible refine at_row ?_); refine row1_k (by rfl) (by decide) fun _ _ _ _ _ _ _ => ?_)
    | with_reducible refine row_k fun _ _ _ _ _ _ => ?_
    | with_reducible refine fork (fun _ => ?_) (fun _ => ?_)
    | with_reducible refine forkp (fun _ => ?_) (fun _ => ?_)
    | with_reducible refine forke (fun _ => ?_) (fun _ _ => ?_)
    | with_reducible refine tail_k fun _ _ _ => ?_
    | with_reducible refine ext_k fun _ _ _ => ?_
    | with_reducible refine need (by first | kernel_rfl | omega | assumption) ?_
    | with_reducible refine st_agg (by kernel_rfl) rfl (by simp only [natV, intV, S3, *]) fun _ _ _ _ => ?_
    | with_reducible refine wpd_quiet_lit (by kernel_rfl) (by kernel_rfl) (by kernel_rfl) ?_
    | simp (maxDischargeDepth := 3) only [↓X, ↓Y, ↓Q, S1, ↓reduceIte, Nat.reduceEqDiff, Nat.reduceAdd, Int.reduceLT, Int.reduceLE, Int.reduceNeg, Int.reduceBEq, Int.reduceBNe, Int.reduceEq, Nat.reduceLeDiff, Nat.reduceMul, Nat.reduceLT, natV, intV, putAt, idxOk, flatP, *]
    | simp (singlePass := true) (maxDischargeDepth := 99) only [*, S2, Nat.reduceLT])
      all_goals first
        | (have hf9 : ascB l.length q (-1) sv.x.apart = false := by
            rw [← hm.out, Bool.eq_false_iff]
            intro h9
            simp only [Bool.and_eq_true, decide_eq_true_eq, Bool.not_eq_true', beq_eq_false_iff_ne] at h9
            omega
           rw [serviceB_eq, hf9]; simp; done)
        | (refine next_k hk hlt ?_ FR
           (repeat' first
    | with_reducible refine alloc_k fun _ _ _ _ _ _ => ?_
    | ((with_reducible refine at_row ?_); refine row1_k (by rfl) (by decide) fun _ _ _ _ _ _ _ => ?_)
    | with_reducible refine row_k fun _ _ _ _ _ _ => ?_
    | with_reducible refine fork (fun _ => ?_) (fun _ => ?_)
    | with_reducible refine forkp (fun _ => ?_) (fun _ => ?_)
    | with_reducible refine forke (fun _ => ?_) (fun _ _ => ?_)
    | with_reducible refine tail_k fun _ _ _ => ?_
    | with_reducible refine ext_k fun _ _ _ => ?_
    | with_reducible refine need (by first | kernel_rfl | omega | assumption) ?_
    | with_reducible refine st_agg (by kernel_rfl) rfl (by simp only [natV, intV, S3, *]) fun _ _ _ _ => ?_
    | with_reducible refine wpd_quiet_lit (by kernel_rfl) (by kernel_rfl) (by kernel_rfl) ?_
    | simp (maxDischargeDepth := 3) only [↓X, ↓Y, ↓Q, S1, ↓reduceIte, Nat.reduceEqDiff, Nat.reduceAdd, Int.reduceLT, Int.reduceLE, Int.reduceNeg, Int.reduceBEq, Int.reduceBNe, Int.reduceEq, Nat.reduceLeDiff, Nat.reduceMul, Nat.reduceLT, natV, intV, putAt, idxOk, flatP, *]
    | simp (singlePass := true) (maxDischargeDepth := 99) only [*, S2, Nat.reduceLT])
           refine ⟨_, rfl, ?_⟩
           show _ = _
           rw [← hm.out, decide_eq_true (show c < sv.x.apart[k] by omega), decide_eq_true (show sv.x.apart[k] < (l.length : Int) by omega), show (sv.x.apart[k] == (q : Int)) = false by assumption]
           simp)
    · rintro g wk _ _ _ ⟨hi, hf, hp⟩
      simp (maxDischargeDepth := 3) only [U, ↓reduceIte, Nat.reduceEqDiff, *] at hf
      obtain ⟨c, h6, hm⟩ := hp
      have hasc1 : ascB l.length q (-1) sv.x.apart = true := by rw [← hm.out, List.drop_length]; rfl
      clear hm
      (repeat' first
    | with_reducible refine alloc_k fun _ _ _ _ _ _ => ?_
    | ((with_reducible refine at_row ?_); refine row1_k (by rfl) (by decide) fun _ _ _ _ _ _ _ => ?_)
    | with_reducible refine row_k fun _ _ _ _ _ _ => ?_
    | with_reducible refine fork (fun _ => ?_) (fun _ => ?_)
    | with_reducible refine forkp (fun _ => ?_) (fun _ => ?_)
    | with_reducible refine forke (fun _ => ?_) (fun _ _ => ?_)
    | with_reducible refine tail_k fun _ _ _ => ?_
    | with_reducible refine ext_k fun _ _ _ => ?_
    | with_reducible refine need (by first | kernel_rfl | omega | assumption) ?_
    | with_reducible refine st_agg (by kernel_rfl) rfl (by simp only [natV, intV, S3, *]) fun _ _ _ _ => ?_
    | with_reducible refine wpd_quiet_lit (by kernel_rfl) (by kernel_rfl) (by kernel_rfl) ?_
    | simp (maxDischargeDepth := 3) only [↓X, ↓Y, ↓Q, S1, ↓reduceIte, Nat.reduceEqDiff, Nat.reduceAdd, Int.reduceLT, Int.reduceLE, Int.reduceNeg, Int.reduceBEq, Int.reduceBNe, Int.reduceEq, Nat.reduceLeDiff, Nat.reduceMul, Nat.reduceLT, natV, intV, putAt, idxOk, flatP, *]
    | simp (singlePass := true) (maxDischargeDepth := 99) only [*, S2, Nat.reduceLT])
      refine loop_k (sv.x.near.length) (fun g0 k g _ => g 8 = .int .i64 k ∧ (g 1 = g0 1 ∧ g 2 = g0 2 ∧ g 5 = g0 5) ∧ ∃ c : Int, g 6 = .int .i64 c ∧ Hid (ascB l.length q c ((sv.x.near.drop k).map (·.service)) = ascB l.length q (-1) (sv.x.near.map (·.service))) ∧ Hid ((sv.x.near.take k).all (fun k => btw k.latency 0 1000000) = true)) (by kernel_rfl) (hn'.max_) ?_ ?_ ?_
      · (repeat' first
    | with_reducible refine alloc_k fun _ _ _ _ _ _ => ?_
    | ((with_reducible refine at_row ?_); refine row1_k (by rfl) (by decide) fun _ _ _ _ _ _ _ => ?_)
    | with_reducible refine row_k fun _ _ _ _ _ _ => ?_
    | with_reducible refine fork (fun _ => ?_) (fun _ => ?_)
    | with_reducible refine forkp (fun _ => ?_) (fun _ => ?_)
    | with_reducible refine forke (fun _ => ?_) (fun _ _ => ?_)
    | with_reducible refine tail_k fun _ _ _ => ?_
    | with_reducible refine ext_k fun _ _ _ => ?_
    | with_reducible refine need (by first | kernel_rfl | omega | assumption) ?_
    | with_reducible refine st_agg (by kernel_rfl) rfl (by simp only [natV, intV, S3, *]) fun _ _ _ _ => ?_
    | with_reducible refine wpd_quiet_lit (by kernel_rfl) (by kernel_rfl) (by kernel_rfl) ?_
    | simp (maxDischargeDepth := 3) only [↓X, ↓Y, ↓Q, S1, ↓reduceIte, Nat.reduceEqDiff, Nat.reduceAdd, Int.reduceLT, Int.reduceLE, Int.reduceNeg, Int.reduceBEq, Int.reduceBNe, Int.reduceEq, Nat.reduceLeDiff, Nat.reduceMul, Nat.reduceLT, natV, intV, putAt, idxOk, flatP, *, List.take_zero, List.all_nil, List.any_nil]
    | simp (singlePass := true) (maxDischargeDepth := 99) only [*, S2, Nat.reduceLT, List.take_zero, List.all_nil, List.any_nil])
        exact ⟨-1, rfl, rfl, trivial⟩
      · rintro k m g wk hk hlt _ _ _ hw ⟨hi, hf, hp⟩
        simp (maxDischargeDepth := 3) only [U, ↓reduceIte, Nat.reduceEqDiff, *] at hf
        obtain ⟨c, h6, hm, hlat⟩ := hp
        have hm := hm.out
        rw [List.drop_eq_getElem_cons hlt, List.map_cons, asc_cons] at hm
        have hm : Hid _ := hm
        have hat := all_take hlt (fun k : NearD => btw k.latency 0 1000000)
        (repeat' first
    | with_reducible refine alloc_k fun _ _ _ _ _ _ => ?_
    | ((with_reducible refine at_row ?_); refine row1_k (by rfl) (by decide) fun _ _ _ _ _ _ _ => ?_)
    | with_reducible refine row_k fun _ _ _ _ _ _ => ?_
    | with_reducible refine fork (fun _ => ?_) (fun _ => ?_)
    | with_reducible refine forkp (fun _ => ?_) (fun _ => ?_)
    | with_reducible refine forke (fun _ => ?_) (fun _ _ => ?_)
    | with_reducible refine tail_k fun _ _ _ => ?_
    | with_reducible refine ext_k fun _ _ _ => ?_
    | with_reducible refine need (by first | kernel_rfl | omega | assumption) ?_
    | with_reducible refine st_agg (by kernel_rfl) rfl (by simp only [natV, intV, S3, *]) fun _ _ _ _ => ?_
    | with_reducible refine wpd_quiet_lit (by kernel_rfl) (by kernel_rfl) (by kernel_rfl) ?_
    | simp (maxDischargeDepth := 3) only [↓X, ↓Y, ↓Q, S1, ↓reduceIte, Nat.reduceEqDiff, Nat.reduceAdd, Int.reduceLT, Int.reduceLE, Int.reduceNeg, Int.reduceBEq, Int.reduceBNe, Int.reduceEq, Nat.reduceLeDiff, Nat.reduceMul, Nat.reduceLT, natV, intV, putAt, idxOk, flatP, *, nearV]
    | simp (singlePass := true) (maxDischargeDepth := 99) only [*, S2, Nat.reduceLT, nearV])
        all_goals first
          | (have hf9 : ascB l.length q (-1) (sv.x.near.map (·.service)) = false := by
              rw [← hm.out, Bool.eq_false_iff]
              intro h9
              simp only [Bool.and_eq_true, decide_eq_true_eq, Bool.not_eq_true', beq_eq_false_iff_ne] at h9
              omega
             rw [serviceB_eq, hf9]; simp; done)
          | (have hf9 : (sv.x.near.all fun k => btw k.latency 0 1000000) = false := all_at hlt (by
              rw [Bool.eq_false_iff]
              intro h9
              simp only [btw, Bool.and_eq_true, decide_eq_true_eq] at h9
              omega)
             rw [serviceB_eq, hf9]; simp; done)
          | (refine next_k hk hlt ?_ FR
             (repeat' first
    | with_reducible refine alloc_k fun _ _ _ _ _ _ => ?_
    | ((with_reducible refine at_row ?_); refine row1_k (by rfl) (by decide) fun _ _ _ _ _ _ _ => ?_)
    | with_reducible refine row_k fun _ _ _ _ _ _ => ?_
    | with_reducible refine fork (fun _ => ?_) (fun _ => ?_)
    | with_reducible refine forkp (fun _ => ?_) (fun _ => ?_)
    | with_reducible refine forke (fun _ => ?_) (fun _ _ => ?_)
    | with_reducible refine tail_k fun _ _ _ => ?_
    | with_reducible refine ext_k fun _ _ _ => ?_
    | with_reducible refine need (by first | kernel_rfl | omega | assumption) ?_
    | with_reducible refine st_agg (by kernel_rfl) rfl (by simp only [natV, intV, S3, *]) fun _ _ _ _ => ?_
    | with_reducible refine wpd_quiet_lit (by kernel_rfl) (by kernel_rfl) (by kernel_rfl) ?_
    | simp (maxDischargeDepth := 3) only [↓X, ↓Y, ↓Q, S1, ↓reduceIte, Nat.reduceEqDiff, Nat.reduceAdd, Int.reduceLT, Int.reduceLE, Int.reduceNeg, Int.reduceBEq, Int.reduceBNe, Int.reduceEq, Nat.reduceLeDiff, Nat.reduceMul, Nat.reduceLT, natV, intV, putAt, idxOk, flatP, *]
    | simp (singlePass := true) (maxDischargeDepth := 99) only [*, S2, Nat.reduceLT])
             refine ⟨_, rfl, ?_, ?_⟩
             · show _ = _
               rw [← hm.out, decide_eq_true (show c < sv.x.near[k].service by omega), decide_eq_true (show sv.x.near[k].service < (l.length : Int) by omega), show (sv.x.near[k].service == (q : Int)) = false by assumption]
               simp
             · show _ = _
               first | rw [hat, hlat.out] | rw [hlat.out]
               simp only [btw, Bool.true_and, Bool.and_eq_true, decide_eq_true_eq]
               omega)
      · rintro g wk _ _ _ ⟨hi, hf, hp⟩
        simp (maxDischargeDepth := 3) only [U, ↓reduceIte, Nat.reduceEqDiff, *] at hf
        obtain ⟨c, h6, hm, hlat⟩ := hp
        have hasc2 : ascB l.length q (-1) (sv.x.near.map (·.service)) = true := by rw [← hm.out, List.drop_length]; rfl
        have hlat := hlat.out
        rw [take_all] at hlat
        (repeat' first
    | with_reducible refine alloc_k fun _ _ _ _ _ _ => ?_
    | ((with_reducible refine at_row ?_); refine row1_k (by rfl) (by decide) fun _ _ _ _ _ _ _ => ?_)
    | with_reducible refine row_k fun _ _ _ _ _ _ => ?_
    | with_reducible refine fork (fun _ => ?_) (fun _ => ?_)
    | with_reducible refine forkp (fun _ => ?_) (fun _ => ?_)
    | with_reducible refine forke (fun _ => ?_) (fun _ _ => ?_)
    | with_reducible refine tail_k fun _ _ _ => ?_
    | with_reducible refine ext_k fun _ _ _ => ?_
    | with_reducible refine need (by first | kernel_rfl | omega | assumption) ?_
    | with_reducible refine st_agg (by kernel_rfl) rfl (by simp only [natV, intV, S3, *]) fun _ _ _ _ => ?_
    | with_reducible refine wpd_quiet_lit (by kernel_rfl) (by kernel_rfl) (by kernel_rfl) ?_
    | simp (maxDischargeDepth := 3) only [↓X, ↓Y, ↓Q, S1, ↓reduceIte, Nat.reduceEqDiff, Nat.reduceAdd, Int.reduceLT, Int.reduceLE, Int.reduceNeg, Int.reduceBEq, Int.reduceBNe, Int.reduceEq, Nat.reduceLeDiff, Nat.reduceMul, Nat.reduceLT, natV, intV, putAt, idxOk, flatP, *]
    | simp (singlePass := true) (maxDischargeDepth := 99) only [*, S2, Nat.reduceLT])
        rw [serviceB_eq, hhead, hasc1, hasc2, hlat]
        rfl
end
end Go.Proofs.Ytbfmabkdggllhaa
