/- The document's answer, layer 13: what only looks. -/
import Derived.Test.YtgickfllblmhpaaGreatDoorRef12
namespace Go.Proofs.YtgickfllblmhpaaGreatDoor
set_option linter.unusedSimpArgs false
set_option linter.unusedVariables false
open Go Go.RowKit
set_option maxRecDepth 100000
set_option linter.unusedSectionVars false
set_option maxHeartbeats 1000000
end Go.Proofs.YtgickfllblmhpaaGreatDoor
/- The document's answer, layer 13, and the layer world: ValidWish, Valid, Where, Runs, Has, Used. -/
namespace Go.Proofs.YtgickfllblmhpaaGreatDoor
set_option linter.unusedSimpArgs false
set_option linter.unusedVariables false
open Go Go.RowKit
set_option maxRecDepth 100000
set_option linter.unusedSectionVars false
set_option maxHeartbeats 1000000
def stateB (x : StateD) : Bool := decide (x.phase ≤ 4) && btw x.firmware 0 1000000
def replB (n m : Int) (r : ReplicaD) : Bool := idx r.service n && idx r.host m
def validB (s : SiteD) (wl : List ServiceD) (x : WorldD) : Bool := siteB s && wishB wl && decide (x.hosts.length = s.hosts.length) && decide (x.replicas.length ≤ 24) && sortedB x.replicas && x.hosts.all stateB && x.replicas.all (replB wl.length s.hosts.length)
def whereF (svc : Int) (l : List ReplicaD) : List Int := (l.filter fun r => r.service == svc).map (·.host)
def whereL (x : WorldD) (svc : Int) : List Int := whereF svc x.replicas
def coresAt (wl : List ServiceD) (i : Int) : Int := ((wl[i.toNat]?).map (·.cores)).getD 0
def usedF (wl : List ServiceD) (host : Int) : Int → List ReplicaD → Int
  | acc, [] => acc
  | acc, r :: t => usedF wl host (if r.host = host ∧ idx r.service wl.length = true then IntKind.i64.wrap (acc + coresAt wl r.service) else acc) t
def usedI (wl : List ServiceD) (x : WorldD) (host : Int) : Int := usedF wl host 0 x.replicas
theorem asc_cons {n i c a : Int} {r : List Int} : ascB n i c (a :: r) = (decide (c < a) && decide (a < n) && !(a == i) && ascB n i a r) := rfl
def srvHead (x : ServiceD) : Bool := btw x.cores 1 1000 && btw x.replicas 0 24 && btw x.least 0 x.replicas && btw x.firmware 0 1000000 && spreadB x
theorem serviceB_eq (n i : Int) (x : ServiceD) : serviceB n i x = (srvHead x && ascB n i (-1) x.apart && ascB n i (-1) (x.near.map (·.service)) && x.near.all fun k => btw k.latency 0 1000000) := rfl
section
variable {w : World} {B : Nat} {u : SiteVs} {s : SiteD} {wv hv rv : Value} {l : List SrvV} {x : WorldD}
theorem ref13service (hB : B ≤ w.heap.size) (hl : WishR w B wv l) {q : Nat} (hq : q < l.length) : Ret Tryz.prog 92 #[.agg #[wv], natV q] w (.bool (serviceB l.length q l[q].x)) := by
  have hn : Now w := trivial
  have hx : Ext w w := Ext.refl w
  have hl' := hl.sk hB
  have ha := hl.a _ (List.getElem_mem hq)
  have hn' := hl.n _ (List.getElem_mem hq)
  have ha' := ha.k hB
  have hn2 := hn'.k hB
  generalize hsrv : l[q] = sv at *
  have hone1 := ha.one
  have hone2 := hn'.one
  (refine callsV_of Tryz.func92 rfl (by kernel_rfl) (by kernel_rfl) ?_; rw [Tryz.results92])
  have hfal : srvHead sv.x = false → Value.bool false = Value.bool (serviceB l.length q sv.x) := fun h => by rw [serviceB_eq, h]; simp only [Bool.false_and]
  (repeat' first
    | ((with_reducible refine at_row ?_); refine row1_k (by rfl) (by decide) fun _ _ _ _ _ _ _ => ?_)
    | with_reducible first | refine alloc_k fun _ _ _ _ _ _ => ?_ | refine row_k fun _ _ _ _ _ _ => ?_ | refine fork (fun _ => ?_) fun _ => ?_ | refine forkp (fun _ => ?_) fun _ => ?_ | refine forke (fun _ => ?_) fun _ _ => ?_ | refine tail_k fun _ _ _ => ?_ | refine ext_k fun _ _ _ => ?_ | refine need_a ?_ | refine st_agg (by kernel_rfl) rfl (by simp only [natV, intV, S3, *]) fun _ _ _ _ => ?_ | refine wpd_q_a ?_
    | simp (maxDischargeDepth := 3) only [↓X, ↓Y, ↓Q, S1, ↓reduceIte, Nat.reduceEqDiff, Nat.reduceAdd, Int.reduceLT, Int.reduceLE, Int.reduceNeg, Int.reduceBEq, Int.reduceBNe, Int.reduceEq, Nat.reduceLeDiff, Nat.reduceMul, Nat.reduceLT, natV, intV, putAt, idxOk, flatP, *, srvV, srvC]
    | simp (singlePass := true) (maxDischargeDepth := 99) only [*, S2, Nat.reduceLT, srvV, srvC])
  all_goals (try (refine hfal (Bool.eq_false_iff.2 fun h => ?_); simp only [srvHead, btw, spreadB, Bool.and_eq_true, decide_eq_true_eq] at h; split at h <;> (try simp only [beq_iff_eq, Bool.and_eq_true, decide_eq_true_eq] at h) <;> omega))
  all_goals
    have hhead : srvHead sv.x = true := by
      simp only [srvHead, btw, spreadB, Bool.and_eq_true, decide_eq_true_eq]
      refine ⟨by omega, ?_⟩
      split <;> (try simp only [beq_iff_eq, Bool.and_eq_true, decide_eq_true_eq]) <;> omega
    refine loop_k (sv.x.apart.length) (fun g0 k g _ => g 7 = .int .i64 k ∧ (g 1 = g0 1 ∧ g 2 = g0 2 ∧ g 5 = g0 5) ∧ ∃ c : Int, g 6 = .int .i64 c ∧ Hid (ascB l.length q c (sv.x.apart.drop k) = ascB l.length q (-1) sv.x.apart)) (by kernel_rfl) (ha.max_) ?_ ?_ ?_
    · (repeat' first
    | ((with_reducible refine at_row ?_); refine row1_k (by rfl) (by decide) fun _ _ _ _ _ _ _ => ?_)
    | with_reducible first | refine alloc_k fun _ _ _ _ _ _ => ?_ | refine row_k fun _ _ _ _ _ _ => ?_ | refine fork (fun _ => ?_) fun _ => ?_ | refine forkp (fun _ => ?_) fun _ => ?_ | refine forke (fun _ => ?_) fun _ _ => ?_ | refine tail_k fun _ _ _ => ?_ | refine ext_k fun _ _ _ => ?_ | refine need_a ?_ | refine st_agg (by kernel_rfl) rfl (by simp only [natV, intV, S3, *]) fun _ _ _ _ => ?_ | refine wpd_q_a ?_
    | simp (maxDischargeDepth := 3) only [↓X, ↓Y, ↓Q, S1, ↓reduceIte, Nat.reduceEqDiff, Nat.reduceAdd, Int.reduceLT, Int.reduceLE, Int.reduceNeg, Int.reduceBEq, Int.reduceBNe, Int.reduceEq, Nat.reduceLeDiff, Nat.reduceMul, Nat.reduceLT, natV, intV, putAt, idxOk, flatP, *, List.take_zero, List.all_nil, List.any_nil]
    | simp (singlePass := true) (maxDischargeDepth := 99) only [*, S2, Nat.reduceLT, List.take_zero, List.all_nil, List.any_nil])
      exact ⟨-1, rfl, rfl⟩
    · rintro k m g wk hk hlt _ _ _ hw ⟨hi, hf, hp⟩
      simp (maxDischargeDepth := 3) only [U, ↓reduceIte, Nat.reduceEqDiff, *] at hf
      obtain ⟨c, h6, hm⟩ := hp
      have hm := hm.out
      rw [List.drop_eq_getElem_cons hlt, asc_cons] at hm
      have hm : Hid _ := hm
      (repeat' first
    | ((with_reducible refine at_row ?_); refine row1_k (by rfl) (by decide) fun _ _ _ _ _ _ _ => ?_)
    | with_reducible first | refine alloc_k fun _ _ _ _ _ _ => ?_ | refine row_k fun _ _ _ _ _ _ => ?_ | refine fork (fun _ => ?_) fun _ => ?_ | refine forkp (fun _ => ?_) fun _ => ?_ | refine forke (fun _ => ?_) fun _ _ => ?_ | refine tail_k fun _ _ _ => ?_ | refine ext_k fun _ _ _ => ?_ | refine need_a ?_ | refine st_agg (by kernel_rfl) rfl (by simp only [natV, intV, S3, *]) fun _ _ _ _ => ?_ | refine wpd_q_a ?_
    | simp (maxDischargeDepth := 3) only [↓X, ↓Y, ↓Q, S1, ↓reduceIte, Nat.reduceEqDiff, Nat.reduceAdd, Int.reduceLT, Int.reduceLE, Int.reduceNeg, Int.reduceBEq, Int.reduceBNe, Int.reduceEq, Nat.reduceLeDiff, Nat.reduceMul, Nat.reduceLT, natV, intV, putAt, idxOk, flatP, *]
    | simp (singlePass := true) (maxDischargeDepth := 99) only [*, S2, Nat.reduceLT])
      all_goals first
        | (have hf9 : ascB l.length q (-1) sv.x.apart = false := by
            rw [← hm.out, Bool.eq_false_iff]
            intro h9
            simp only [Bool.and_eq_true, decide_eq_true_eq, Bool.not_eq_true', beq_eq_false_iff_ne] at h9
            omega
           rw [serviceB_eq, hf9]; simp; done)
        | (refine next_k hk hlt ?_ FR
           (repeat' first
    | ((with_reducible refine at_row ?_); refine row1_k (by rfl) (by decide) fun _ _ _ _ _ _ _ => ?_)
    | with_reducible first | refine alloc_k fun _ _ _ _ _ _ => ?_ | refine row_k fun _ _ _ _ _ _ => ?_ | refine fork (fun _ => ?_) fun _ => ?_ | refine forkp (fun _ => ?_) fun _ => ?_ | refine forke (fun _ => ?_) fun _ _ => ?_ | refine tail_k fun _ _ _ => ?_ | refine ext_k fun _ _ _ => ?_ | refine need_a ?_ | refine st_agg (by kernel_rfl) rfl (by simp only [natV, intV, S3, *]) fun _ _ _ _ => ?_ | refine wpd_q_a ?_
    | simp (maxDischargeDepth := 3) only [↓X, ↓Y, ↓Q, S1, ↓reduceIte, Nat.reduceEqDiff, Nat.reduceAdd, Int.reduceLT, Int.reduceLE, Int.reduceNeg, Int.reduceBEq, Int.reduceBNe, Int.reduceEq, Nat.reduceLeDiff, Nat.reduceMul, Nat.reduceLT, natV, intV, putAt, idxOk, flatP, *]
    | simp (singlePass := true) (maxDischargeDepth := 99) only [*, S2, Nat.reduceLT])
           refine ⟨_, rfl, ?_⟩
           show _ = _
           rw [← hm.out, decide_eq_true (show c < sv.x.apart[k] by omega), decide_eq_true (show sv.x.apart[k] < (l.length : Int) by omega), show (sv.x.apart[k] == (q : Int)) = false by assumption]
           simp)
    · rintro g wk _ _ _ ⟨hi, hf, hp⟩
      simp (maxDischargeDepth := 3) only [U, ↓reduceIte, Nat.reduceEqDiff, *] at hf
      obtain ⟨c, h6, hm⟩ := hp
      have hasc1 : ascB l.length q (-1) sv.x.apart = true := by rw [← hm.out, List.drop_length]; rfl
      clear hm
      (repeat' first
    | ((with_reducible refine at_row ?_); refine row1_k (by rfl) (by decide) fun _ _ _ _ _ _ _ => ?_)
    | with_reducible first | refine alloc_k fun _ _ _ _ _ _ => ?_ | refine row_k fun _ _ _ _ _ _ => ?_ | refine fork (fun _ => ?_) fun _ => ?_ | refine forkp (fun _ => ?_) fun _ => ?_ | refine forke (fun _ => ?_) fun _ _ => ?_ | refine tail_k fun _ _ _ => ?_ | refine ext_k fun _ _ _ => ?_ | refine need_a ?_ | refine st_agg (by kernel_rfl) rfl (by simp only [natV, intV, S3, *]) fun _ _ _ _ => ?_ | refine wpd_q_a ?_
    | simp (maxDischargeDepth := 3) only [↓X, ↓Y, ↓Q, S1, ↓reduceIte, Nat.reduceEqDiff, Nat.reduceAdd, Int.reduceLT, Int.reduceLE, Int.reduceNeg, Int.reduceBEq, Int.reduceBNe, Int.reduceEq, Nat.reduceLeDiff, Nat.reduceMul, Nat.reduceLT, natV, intV, putAt, idxOk, flatP, *]
    | simp (singlePass := true) (maxDischargeDepth := 99) only [*, S2, Nat.reduceLT])
      refine loop_k (sv.x.near.length) (fun g0 k g _ => g 8 = .int .i64 k ∧ (g 1 = g0 1 ∧ g 2 = g0 2 ∧ g 5 = g0 5) ∧ ∃ c : Int, g 6 = .int .i64 c ∧ Hid (ascB l.length q c ((sv.x.near.drop k).map (·.service)) = ascB l.length q (-1) (sv.x.near.map (·.service))) ∧ Hid ((sv.x.near.take k).all (fun k => btw k.latency 0 1000000) = true)) (by kernel_rfl) (hn'.max_) ?_ ?_ ?_
      · (repeat' first
    | ((with_reducible refine at_row ?_); refine row1_k (by rfl) (by decide) fun _ _ _ _ _ _ _ => ?_)
    | with_reducible first | refine alloc_k fun _ _ _ _ _ _ => ?_ | refine row_k fun _ _ _ _ _ _ => ?_ | refine fork (fun _ => ?_) fun _ => ?_ | refine forkp (fun _ => ?_) fun _ => ?_ | refine forke (fun _ => ?_) fun _ _ => ?_ | refine tail_k fun _ _ _ => ?_ | refine ext_k fun _ _ _ => ?_ | refine need_a ?_ | refine st_agg (by kernel_rfl) rfl (by simp only [natV, intV, S3, *]) fun _ _ _ _ => ?_ | refine wpd_q_a ?_
    | simp (maxDischargeDepth := 3) only [↓X, ↓Y, ↓Q, S1, ↓reduceIte, Nat.reduceEqDiff, Nat.reduceAdd, Int.reduceLT, Int.reduceLE, Int.reduceNeg, Int.reduceBEq, Int.reduceBNe, Int.reduceEq, Nat.reduceLeDiff, Nat.reduceMul, Nat.reduceLT, natV, intV, putAt, idxOk, flatP, *, List.take_zero, List.all_nil, List.any_nil]
    | simp (singlePass := true) (maxDischargeDepth := 99) only [*, S2, Nat.reduceLT, List.take_zero, List.all_nil, List.any_nil])
        exact ⟨-1, rfl, rfl, trivial⟩
      · rintro k m g wk hk hlt _ _ _ hw ⟨hi, hf, hp⟩
        simp (maxDischargeDepth := 3) only [U, ↓reduceIte, Nat.reduceEqDiff, *] at hf
        obtain ⟨c, h6, hm, hlat⟩ := hp
        have hm := hm.out
        rw [List.drop_eq_getElem_cons hlt, List.map_cons, asc_cons] at hm
        have hm : Hid _ := hm
        have hat := all_take hlt (fun k : NearD => btw k.latency 0 1000000)
        (repeat' first
    | ((with_reducible refine at_row ?_); refine row1_k (by rfl) (by decide) fun _ _ _ _ _ _ _ => ?_)
    | with_reducible first | refine alloc_k fun _ _ _ _ _ _ => ?_ | refine row_k fun _ _ _ _ _ _ => ?_ | refine fork (fun _ => ?_) fun _ => ?_ | refine forkp (fun _ => ?_) fun _ => ?_ | refine forke (fun _ => ?_) fun _ _ => ?_ | refine tail_k fun _ _ _ => ?_ | refine ext_k fun _ _ _ => ?_ | refine need_a ?_ | refine st_agg (by kernel_rfl) rfl (by simp only [natV, intV, S3, *]) fun _ _ _ _ => ?_ | refine wpd_q_a ?_
    | simp (maxDischargeDepth := 3) only [↓X, ↓Y, ↓Q, S1, ↓reduceIte, Nat.reduceEqDiff, Nat.reduceAdd, Int.reduceLT, Int.reduceLE, Int.reduceNeg, Int.reduceBEq, Int.reduceBNe, Int.reduceEq, Nat.reduceLeDiff, Nat.reduceMul, Nat.reduceLT, natV, intV, putAt, idxOk, flatP, *, nearV]
    | simp (singlePass := true) (maxDischargeDepth := 99) only [*, S2, Nat.reduceLT, nearV])
        all_goals first
          | (have hf9 : ascB l.length q (-1) (sv.x.near.map (·.service)) = false := by
              rw [← hm.out, Bool.eq_false_iff]
              intro h9
              simp only [Bool.and_eq_true, decide_eq_true_eq, Bool.not_eq_true', beq_eq_false_iff_ne] at h9
              omega
             rw [serviceB_eq, hf9]; simp; done)
          | (have hf9 : (sv.x.near.all fun k => btw k.latency 0 1000000) = false := all_at hlt (by
              rw [Bool.eq_false_iff]
              intro h9
              simp only [btw, Bool.and_eq_true, decide_eq_true_eq] at h9
              omega)
             rw [serviceB_eq, hf9]; simp; done)
          | (refine next_k hk hlt ?_ FR
             (repeat' first
    | ((with_reducible refine at_row ?_); refine row1_k (by rfl) (by decide) fun _ _ _ _ _ _ _ => ?_)
    | with_reducible first | refine alloc_k fun _ _ _ _ _ _ => ?_ | refine row_k fun _ _ _ _ _ _ => ?_ | refine fork (fun _ => ?_) fun _ => ?_ | refine forkp (fun _ => ?_) fun _ => ?_ | refine forke (fun _ => ?_) fun _ _ => ?_ | refine tail_k fun _ _ _ => ?_ | refine ext_k fun _ _ _ => ?_ | refine need_a ?_ | refine st_agg (by kernel_rfl) rfl (by simp only [natV, intV, S3, *]) fun _ _ _ _ => ?_ | refine wpd_q_a ?_
    | simp (maxDischargeDepth := 3) only [↓X, ↓Y, ↓Q, S1, ↓reduceIte, Nat.reduceEqDiff, Nat.reduceAdd, Int.reduceLT, Int.reduceLE, Int.reduceNeg, Int.reduceBEq, Int.reduceBNe, Int.reduceEq, Nat.reduceLeDiff, Nat.reduceMul, Nat.reduceLT, natV, intV, putAt, idxOk, flatP, *]
    | simp (singlePass := true) (maxDischargeDepth := 99) only [*, S2, Nat.reduceLT])
             refine ⟨_, rfl, ?_, ?_⟩
             · show _ = _
               rw [← hm.out, decide_eq_true (show c < sv.x.near[k].service by omega), decide_eq_true (show sv.x.near[k].service < (l.length : Int) by omega), show (sv.x.near[k].service == (q : Int)) = false by assumption]
               simp
             · show _ = _
               first | rw [hat, hlat.out] | rw [hlat.out]
               simp only [btw, Bool.true_and, Bool.and_eq_true, decide_eq_true_eq]
               omega)
      · rintro g wk _ _ _ ⟨hi, hf, hp⟩
        simp (maxDischargeDepth := 3) only [U, ↓reduceIte, Nat.reduceEqDiff, *] at hf
        obtain ⟨c, h6, hm, hlat⟩ := hp
        have hasc2 : ascB l.length q (-1) (sv.x.near.map (·.service)) = true := by rw [← hm.out, List.drop_length]; rfl
        have hlat := hlat.out
        rw [take_all] at hlat
        (repeat' first
    | ((with_reducible refine at_row ?_); refine row1_k (by rfl) (by decide) fun _ _ _ _ _ _ _ => ?_)
    | with_reducible first | refine alloc_k fun _ _ _ _ _ _ => ?_ | refine row_k fun _ _ _ _ _ _ => ?_ | refine fork (fun _ => ?_) fun _ => ?_ | refine forkp (fun _ => ?_) fun _ => ?_ | refine forke (fun _ => ?_) fun _ _ => ?_ | refine tail_k fun _ _ _ => ?_ | refine ext_k fun _ _ _ => ?_ | refine need_a ?_ | refine st_agg (by kernel_rfl) rfl (by simp only [natV, intV, S3, *]) fun _ _ _ _ => ?_ | refine wpd_q_a ?_
    | simp (maxDischargeDepth := 3) only [↓X, ↓Y, ↓Q, S1, ↓reduceIte, Nat.reduceEqDiff, Nat.reduceAdd, Int.reduceLT, Int.reduceLE, Int.reduceNeg, Int.reduceBEq, Int.reduceBNe, Int.reduceEq, Nat.reduceLeDiff, Nat.reduceMul, Nat.reduceLT, natV, intV, putAt, idxOk, flatP, *]
    | simp (singlePass := true) (maxDischargeDepth := 99) only [*, S2, Nat.reduceLT])
        rw [serviceB_eq, hhead, hasc1, hasc2, hlat]
        rfl
end
end Go.Proofs.YtgickfllblmhpaaGreatDoor
/- The document's answer, layer 13, and the layer world: ValidWish, Valid, Has. -/
namespace Go.Proofs.YtgickfllblmhpaaGreatDoor
set_option linter.unusedSimpArgs false
set_option linter.unusedVariables false
open Go Go.RowKit
set_option maxRecDepth 100000
set_option linter.unusedSectionVars false
set_option maxHeartbeats 1000000
theorem repl_eq {a b : ReplicaD} : ((a.service == b.service) && (a.host == b.host)) = decide (a = b) := by
  cases a; cases b
  rw [Bool.eq_iff_iff]; simp
theorem state_eq {a b : StateD} : ((a.phase == b.phase) && (a.firmware == b.firmware)) = decide (a = b) := by
  cases a; cases b
  rw [Bool.eq_iff_iff]; simp
theorem dec_not {p : Prop} [Decidable p] {w : World} {A B : World → Prop} : forkX (!decide p) w A B = forkP p w B A := by
  by_cases h : p <;> simp [forkX, forkP, h]
theorem srvsB_get : ∀ {n : Int} {l : List ServiceD} {i : Nat}, srvsB n i l = true ↔ ∀ j (h : j < l.length), serviceB n ((i + j : Nat) : Int) l[j] = true
  | n, [], i => by simp [srvsB]
  | n, a :: l, i => by
    rw [srvsB, Bool.and_eq_true, srvsB_get]
    constructor
    · rintro ⟨h1, h2⟩ j hj
      cases j with
      | zero => exact h1
      | succ j => have := h2 j (by simpa using hj); rw [show i + 1 + j = i + (j + 1) by omega] at this; exact this
    · intro h
      refine ⟨h 0 (by simp), fun j hj => ?_⟩
      have := h (j + 1) (by simpa using hj)
      rw [show i + (j + 1) = i + 1 + j by omega] at this
      exact this
theorem sumR_take : ∀ (l : List ServiceD) (k : Nat) (h : k < l.length), sumR (l.take (k + 1)) = sumR (l.take k) + l[k].replicas
  | [], k, h => absurd h (by simp)
  | a :: l, 0, _ => by simp [sumR]
  | a :: l, k + 1, h => by
    have := sumR_take l k (by simpa using h)
    simp only [List.take_succ_cons, sumR, List.getElem_cons_succ, this]
    omega
section
variable {w : World} {B : Nat} {u : SiteVs} {s : SiteD} {wv hv rv : Value} {l : List SrvV} {x : WorldD}
theorem ref13ValidWish (hB : B ≤ w.heap.size) (hl : WishR w B wv l) : Ret Tryz.prog 50 #[.agg #[wv]] w (.bool (wishB (l.map (·.x)))) := by
  have hn : Now w := trivial
  have hx : Ext w w := Ext.refl w
  have hl' := hl.sk hB
  have hW := hl'.2.2
  have hlen : (l.map (·.x)).length = l.length := by simp
  (refine callsV_of Tryz.func50 rfl (by kernel_rfl) (by kernel_rfl) ?_; rw [Tryz.results50])
  (repeat' first
    | ((with_reducible refine at_row ?_); refine row1_k (by rfl) (by decide) fun _ _ _ _ _ _ _ => ?_)
    | with_reducible first | refine alloc_k fun _ _ _ _ _ _ => ?_ | refine row_k fun _ _ _ _ _ _ => ?_ | refine fork (fun _ => ?_) fun _ => ?_ | refine forkp (fun _ => ?_) fun _ => ?_ | refine forke (fun _ => ?_) fun _ _ => ?_ | refine tail_k fun _ _ _ => ?_ | refine ext_k fun _ _ _ => ?_ | refine need_a ?_ | refine st_agg (by kernel_rfl) rfl (by simp only [natV, intV, S3, *]) fun _ _ _ _ => ?_ | refine wpd_q_a ?_
    | simp (maxDischargeDepth := 3) only [↓X, ↓Y, ↓Q, S1, ↓reduceIte, Nat.reduceEqDiff, Nat.reduceAdd, Int.reduceLT, Int.reduceLE, Int.reduceNeg, Int.reduceBEq, Int.reduceBNe, Int.reduceEq, Nat.reduceLeDiff, Nat.reduceMul, Nat.reduceLT, natV, intV, putAt, idxOk, flatP, *]
    | simp (singlePass := true) (maxDischargeDepth := 99) only [*, S2, Nat.reduceLT])
  · have : wishB (l.map (·.x)) = false := by
      simp only [wishB, hlen]
      rw [decide_eq_false (by omega)]; simp
    rw [this]
  · rename_i h8
    refine loop_k l.length (fun g0 k g _ => g 4 = .int .i64 k ∧ (g 1 = g0 1) ∧ Hid (∀ j (h : j < l.length), j < k → serviceB l.length j l[j].x = true) ∧ g 3 = .int .i64 (sumR ((l.map (·.x)).take k)) ∧ 0 ≤ sumR ((l.map (·.x)).take k) ∧ sumR ((l.map (·.x)).take k) ≤ 24 * k) (by kernel_rfl) hl.v.max_ ?_ ?_ ?_
    · (repeat' first
    | ((with_reducible refine at_row ?_); refine row1_k (by rfl) (by decide) fun _ _ _ _ _ _ _ => ?_)
    | with_reducible first | refine alloc_k fun _ _ _ _ _ _ => ?_ | refine row_k fun _ _ _ _ _ _ => ?_ | refine fork (fun _ => ?_) fun _ => ?_ | refine forkp (fun _ => ?_) fun _ => ?_ | refine forke (fun _ => ?_) fun _ _ => ?_ | refine tail_k fun _ _ _ => ?_ | refine ext_k fun _ _ _ => ?_ | refine need_a ?_ | refine st_agg (by kernel_rfl) rfl (by simp only [natV, intV, S3, *]) fun _ _ _ _ => ?_ | refine wpd_q_a ?_
    | simp (maxDischargeDepth := 3) only [↓X, ↓Y, ↓Q, S1, ↓reduceIte, Nat.reduceEqDiff, Nat.reduceAdd, Int.reduceLT, Int.reduceLE, Int.reduceNeg, Int.reduceBEq, Int.reduceBNe, Int.reduceEq, Nat.reduceLeDiff, Nat.reduceMul, Nat.reduceLT, natV, intV, putAt, idxOk, flatP, *]
    | simp (singlePass := true) (maxDischargeDepth := 99) only [*, S2, Nat.reduceLT])
      exact ⟨fun j _ h => absurd h (by omega), rfl, Int.le_refl _, Int.le_refl _⟩
    · rintro k m g wk hk hlt _ _ _ hw ⟨hi, hf, hp, h3, h4, h5⟩
      simp (maxDischargeDepth := 3) only [U, ↓reduceIte, Nat.reduceEqDiff, *] at hf
      have hst := sumR_take (l.map (·.x)) k (by simpa using hlt)
      simp only [List.getElem_map] at hst
      have hcc : ∃ c, serviceB l.length k l[k].x = c := ⟨_, rfl⟩
      obtain ⟨c, hc0⟩ := hcc
      have hc : Hid (serviceB l.length k l[k].x = c) := hc0
      clear hc0
      have hsv := fun w' (h : Bl B w w') (hB' : B ≤ w'.heap.size) => ref13service hB' (hW w' h) hlt
      rw [hc.out] at hsv
      generalize sumR ((l.map (·.x)).take k) = sm at *
      have hfin : c = false → wishB (l.map (·.x)) = false := by
        intro h
        rw [h] at hc
        have : srvsB l.length 0 (l.map (·.x)) = false := by
          rw [Bool.eq_false_iff, Ne, srvsB_get]
          intro h2
          have := h2 k (by simpa using hlt)
          simp only [List.getElem_map, Nat.zero_add] at this
          rw [hc.out] at this
          cases this
        simp only [wishB, hlen, this, Bool.and_false, Bool.false_and]
      have hgood : c = true → 0 ≤ l[k].x.replicas ∧ l[k].x.replicas ≤ 24 := by
        intro h
        have h2 := hc.out
        rw [h, serviceB_eq] at h2
        simp only [Bool.and_eq_true, srvHead, btw, decide_eq_true_eq] at h2
        omega
      cases c
      · clear hgood
        (repeat' first
    | ((with_reducible refine at_row ?_); refine row1_k (by rfl) (by decide) fun _ _ _ _ _ _ _ => ?_)
    | with_reducible first | refine alloc_k fun _ _ _ _ _ _ => ?_ | refine row_k fun _ _ _ _ _ _ => ?_ | refine fork (fun _ => ?_) fun _ => ?_ | refine forkp (fun _ => ?_) fun _ => ?_ | refine forke (fun _ => ?_) fun _ _ => ?_ | refine tail_k fun _ _ _ => ?_ | refine ext_k fun _ _ _ => ?_ | refine need_a ?_ | refine st_agg (by kernel_rfl) rfl (by simp only [natV, intV, S3, *]) fun _ _ _ _ => ?_ | refine wpd_q_a ?_
    | ((with_reducible refine at_f 92 ?_); refine ret_k (hsv _ FR FR) fun _ _ _ => ?_)
    | simp (maxDischargeDepth := 3) only [↓X, ↓Y, ↓Q, S1, ↓reduceIte, Nat.reduceEqDiff, Nat.reduceAdd, Int.reduceLT, Int.reduceLE, Int.reduceNeg, Int.reduceBEq, Int.reduceBNe, Int.reduceEq, Nat.reduceLeDiff, Nat.reduceMul, Nat.reduceLT, natV, intV, putAt, idxOk, flatP, *]
    | simp (singlePass := true) (maxDischargeDepth := 99) only [*, S2, Nat.reduceLT])
        all_goals rw [hfin rfl]
      · have hr := hgood rfl
        clear hfin hgood
        have hw3 : IntKind.i64.wrap (sm + l[k].x.replicas) = sm + l[k].x.replicas := by rw [wrap_i64_id] <;> omega
        (repeat' first
    | ((with_reducible refine at_row ?_); refine row1_k (by rfl) (by decide) fun _ _ _ _ _ _ _ => ?_)
    | with_reducible first | refine alloc_k fun _ _ _ _ _ _ => ?_ | refine row_k fun _ _ _ _ _ _ => ?_ | refine fork (fun _ => ?_) fun _ => ?_ | refine forkp (fun _ => ?_) fun _ => ?_ | refine forke (fun _ => ?_) fun _ _ => ?_ | refine tail_k fun _ _ _ => ?_ | refine ext_k fun _ _ _ => ?_ | refine need_a ?_ | refine st_agg (by kernel_rfl) rfl (by simp only [natV, intV, S3, *]) fun _ _ _ _ => ?_ | refine wpd_q_a ?_
    | ((with_reducible refine at_f 92 ?_); refine ret_k (hsv _ FR FR) fun _ _ _ => ?_)
    | simp (maxDischargeDepth := 3) only [↓X, ↓Y, ↓Q, S1, ↓reduceIte, Nat.reduceEqDiff, Nat.reduceAdd, Int.reduceLT, Int.reduceLE, Int.reduceNeg, Int.reduceBEq, Int.reduceBNe, Int.reduceEq, Nat.reduceLeDiff, Nat.reduceMul, Nat.reduceLT, natV, intV, putAt, idxOk, flatP, *, srvV, srvC]
    | simp (singlePass := true) (maxDischargeDepth := 99) only [*, S2, Nat.reduceLT, srvV, srvC])
        refine next_k hk hlt ?_ FR
        (repeat' first
    | ((with_reducible refine at_row ?_); refine row1_k (by rfl) (by decide) fun _ _ _ _ _ _ _ => ?_)
    | with_reducible first | refine alloc_k fun _ _ _ _ _ _ => ?_ | refine row_k fun _ _ _ _ _ _ => ?_ | refine fork (fun _ => ?_) fun _ => ?_ | refine forkp (fun _ => ?_) fun _ => ?_ | refine forke (fun _ => ?_) fun _ _ => ?_ | refine tail_k fun _ _ _ => ?_ | refine ext_k fun _ _ _ => ?_ | refine need_a ?_ | refine st_agg (by kernel_rfl) rfl (by simp only [natV, intV, S3, *]) fun _ _ _ _ => ?_ | refine wpd_q_a ?_
    | simp (maxDischargeDepth := 3) only [↓X, ↓Y, ↓Q, S1, ↓reduceIte, Nat.reduceEqDiff, Nat.reduceAdd, Int.reduceLT, Int.reduceLE, Int.reduceNeg, Int.reduceBEq, Int.reduceBNe, Int.reduceEq, Nat.reduceLeDiff, Nat.reduceMul, Nat.reduceLT, natV, intV, putAt, idxOk, flatP, *, hst]
    | simp (singlePass := true) (maxDischargeDepth := 99) only [*, S2, Nat.reduceLT, hst])
        refine ⟨fun j hj hjk => ?_, by omega, by omega⟩
        rcases Nat.lt_or_eq_of_le (Nat.le_of_lt_succ hjk) with h1 | rfl
        · exact hp.out j hj h1
        · exact hc.out
    · rintro g wk _ _ _ ⟨hi, hf, hp, h3, h4, h5⟩
      simp (maxDischargeDepth := 3) only [U, ↓reduceIte, Nat.reduceEqDiff, *] at hf
      have ht : (l.map (·.x)).take l.length = l.map (·.x) := by rw [← hlen]; exact take_all _
      rw [ht] at h3
      (repeat' first
    | ((with_reducible refine at_row ?_); refine row1_k (by rfl) (by decide) fun _ _ _ _ _ _ _ => ?_)
    | with_reducible first | refine alloc_k fun _ _ _ _ _ _ => ?_ | refine row_k fun _ _ _ _ _ _ => ?_ | refine fork (fun _ => ?_) fun _ => ?_ | refine forkp (fun _ => ?_) fun _ => ?_ | refine forke (fun _ => ?_) fun _ _ => ?_ | refine tail_k fun _ _ _ => ?_ | refine ext_k fun _ _ _ => ?_ | refine need_a ?_ | refine st_agg (by kernel_rfl) rfl (by simp only [natV, intV, S3, *]) fun _ _ _ _ => ?_ | refine wpd_q_a ?_
    | simp (maxDischargeDepth := 3) only [↓X, ↓Y, ↓Q, S1, ↓reduceIte, Nat.reduceEqDiff, Nat.reduceAdd, Int.reduceLT, Int.reduceLE, Int.reduceNeg, Int.reduceBEq, Int.reduceBNe, Int.reduceEq, Nat.reduceLeDiff, Nat.reduceMul, Nat.reduceLT, natV, intV, putAt, idxOk, flatP, *]
    | simp (singlePass := true) (maxDischargeDepth := 99) only [*, S2, Nat.reduceLT])
      have hs : srvsB l.length 0 (l.map (·.x)) = true := srvsB_get.2 fun j hj => by
        have := hp.out j (by simpa using hj) (by simpa using hj)
        simpa using this
      simp only [wishB, hlen, hs, Bool.and_true]
      rw [decide_eq_true (show (l.length : Int) ≤ 8 by omega), Bool.true_and]
theorem slicesIndexReplica {v : Value} {l : List ReplicaD} {r : ReplicaD} (hB : B ≤ w.heap.size) (hv : Sl w B (some 2) 2 v (l.map replicaV)) : Ret Tryz.prog 145 #[v, replicaV r] w (intV (fidx (fun a => decide (a = r)) l)) := by
  have hn : Now w := trivial
  have hx : Ext w w := Ext.refl w
  have hv' := hv.k hB
  (refine callsV_of Tryz.func145 rfl (by kernel_rfl) (by kernel_rfl) ?_; rw [Tryz.results145])
  (repeat' first
    | ((with_reducible refine at_row ?_); refine row1_k (by rfl) (by decide) fun _ _ _ _ _ _ _ => ?_)
    | with_reducible first | refine alloc_k fun _ _ _ _ _ _ => ?_ | refine row_k fun _ _ _ _ _ _ => ?_ | refine fork (fun _ => ?_) fun _ => ?_ | refine forkp (fun _ => ?_) fun _ => ?_ | refine forke (fun _ => ?_) fun _ _ => ?_ | refine tail_k fun _ _ _ => ?_ | refine ext_k fun _ _ _ => ?_ | refine need_a ?_ | refine st_agg (by kernel_rfl) rfl (by simp only [natV, intV, S3, *]) fun _ _ _ _ => ?_ | refine wpd_q_a ?_
    | simp (maxDischargeDepth := 3) only [↓X, ↓Y, ↓Q, S1, ↓reduceIte, Nat.reduceEqDiff, Nat.reduceAdd, Int.reduceLT, Int.reduceLE, Int.reduceNeg, Int.reduceBEq, Int.reduceBNe, Int.reduceEq, Nat.reduceLeDiff, Nat.reduceMul, Nat.reduceLT, natV, intV, putAt, idxOk, flatP, *, replicaV]
    | simp (singlePass := true) (maxDischargeDepth := 99) only [*, S2, Nat.reduceLT, replicaV])
  refine loop_k (l.length) (fun g0 k g _ => g 8 = .int .i64 k ∧ (g 0 = g0 0 ∧ g 3 = g0 3 ∧ g 7 = g0 7) ∧ Hid (∀ j (h : j < l.length), j < k → ¬ l[j] = r)) (by kernel_rfl) (hv.max_) ?_ ?_ ?_
  · (repeat' first
    | ((with_reducible refine at_row ?_); refine row1_k (by rfl) (by decide) fun _ _ _ _ _ _ _ => ?_)
    | with_reducible first | refine alloc_k fun _ _ _ _ _ _ => ?_ | refine row_k fun _ _ _ _ _ _ => ?_ | refine fork (fun _ => ?_) fun _ => ?_ | refine forkp (fun _ => ?_) fun _ => ?_ | refine forke (fun _ => ?_) fun _ _ => ?_ | refine tail_k fun _ _ _ => ?_ | refine ext_k fun _ _ _ => ?_ | refine need_a ?_ | refine st_agg (by kernel_rfl) rfl (by simp only [natV, intV, S3, *]) fun _ _ _ _ => ?_ | refine wpd_q_a ?_
    | simp (maxDischargeDepth := 3) only [↓X, ↓Y, ↓Q, S1, ↓reduceIte, Nat.reduceEqDiff, Nat.reduceAdd, Int.reduceLT, Int.reduceLE, Int.reduceNeg, Int.reduceBEq, Int.reduceBNe, Int.reduceEq, Nat.reduceLeDiff, Nat.reduceMul, Nat.reduceLT, natV, intV, putAt, idxOk, flatP, *, List.take_zero, List.all_nil, List.any_nil]
    | simp (singlePass := true) (maxDischargeDepth := 99) only [*, S2, Nat.reduceLT, List.take_zero, List.all_nil, List.any_nil])
    exact fun j _ h => absurd h (by omega)
  · rintro k m g wk hk hlt _ _ _ hw ⟨hi, hf, hp⟩
    simp (maxDischargeDepth := 3) only [U, ↓reduceIte, Nat.reduceEqDiff, *] at hf
    (repeat' first
    | ((with_reducible refine at_row ?_); refine row1_k (by rfl) (by decide) fun _ _ _ _ _ _ _ => ?_)
    | with_reducible first | refine alloc_k fun _ _ _ _ _ _ => ?_ | refine row_k fun _ _ _ _ _ _ => ?_ | refine fork (fun _ => ?_) fun _ => ?_ | refine forkp (fun _ => ?_) fun _ => ?_ | refine forke (fun _ => ?_) fun _ _ => ?_ | refine tail_k fun _ _ _ => ?_ | refine ext_k fun _ _ _ => ?_ | refine need_a ?_ | refine st_agg (by kernel_rfl) rfl (by simp only [natV, intV, S3, *]) fun _ _ _ _ => ?_ | refine wpd_q_a ?_
    | simp (maxDischargeDepth := 3) only [↓X, ↓Y, ↓Q, S1, ↓reduceIte, Nat.reduceEqDiff, Nat.reduceAdd, Int.reduceLT, Int.reduceLE, Int.reduceNeg, Int.reduceBEq, Int.reduceBNe, Int.reduceEq, Nat.reduceLeDiff, Nat.reduceMul, Nat.reduceLT, natV, intV, putAt, idxOk, flatP, *, replicaV, repl_eq]
    | simp (singlePass := true) (maxDischargeDepth := 99) only [*, S2, Nat.reduceLT, replicaV, repl_eq])
    · rename_i h
      rw [fidx_found hlt (by simp [h]) (fun j hj hjk => by simpa [h] using hp.out j hj hjk)]
    · rename_i h
      refine next_k hk hlt ?_ FR
      (repeat' first
    | ((with_reducible refine at_row ?_); refine row1_k (by rfl) (by decide) fun _ _ _ _ _ _ _ => ?_)
    | with_reducible first | refine alloc_k fun _ _ _ _ _ _ => ?_ | refine row_k fun _ _ _ _ _ _ => ?_ | refine fork (fun _ => ?_) fun _ => ?_ | refine forkp (fun _ => ?_) fun _ => ?_ | refine forke (fun _ => ?_) fun _ _ => ?_ | refine tail_k fun _ _ _ => ?_ | refine ext_k fun _ _ _ => ?_ | refine need_a ?_ | refine st_agg (by kernel_rfl) rfl (by simp only [natV, intV, S3, *]) fun _ _ _ _ => ?_ | refine wpd_q_a ?_
    | simp (maxDischargeDepth := 3) only [↓X, ↓Y, ↓Q, S1, ↓reduceIte, Nat.reduceEqDiff, Nat.reduceAdd, Int.reduceLT, Int.reduceLE, Int.reduceNeg, Int.reduceBEq, Int.reduceBNe, Int.reduceEq, Nat.reduceLeDiff, Nat.reduceMul, Nat.reduceLT, natV, intV, putAt, idxOk, flatP, *]
    | simp (singlePass := true) (maxDischargeDepth := 99) only [*, S2, Nat.reduceLT])
      intro j hj hjk
      rcases Nat.lt_or_eq_of_le (Nat.le_of_lt_succ hjk) with h1 | rfl
      · exact hp.out j hj h1
      · exact fun e => h e.symm
  · rintro g wk _ _ _ ⟨hi, hf, hp⟩
    simp (maxDischargeDepth := 3) only [U, ↓reduceIte, Nat.reduceEqDiff, *] at hf
    (repeat' first
    | ((with_reducible refine at_row ?_); refine row1_k (by rfl) (by decide) fun _ _ _ _ _ _ _ => ?_)
    | with_reducible first | refine alloc_k fun _ _ _ _ _ _ => ?_ | refine row_k fun _ _ _ _ _ _ => ?_ | refine fork (fun _ => ?_) fun _ => ?_ | refine forkp (fun _ => ?_) fun _ => ?_ | refine forke (fun _ => ?_) fun _ _ => ?_ | refine tail_k fun _ _ _ => ?_ | refine ext_k fun _ _ _ => ?_ | refine need_a ?_ | refine st_agg (by kernel_rfl) rfl (by simp only [natV, intV, S3, *]) fun _ _ _ _ => ?_ | refine wpd_q_a ?_
    | simp (maxDischargeDepth := 3) only [↓X, ↓Y, ↓Q, S1, ↓reduceIte, Nat.reduceEqDiff, Nat.reduceAdd, Int.reduceLT, Int.reduceLE, Int.reduceNeg, Int.reduceBEq, Int.reduceBNe, Int.reduceEq, Nat.reduceLeDiff, Nat.reduceMul, Nat.reduceLT, natV, intV, putAt, idxOk, flatP, *]
    | simp (singlePass := true) (maxDischargeDepth := 99) only [*, S2, Nat.reduceLT])
    rw [fidx_none (fun j hj => by simp [hp.out j hj hj])]
def hasB (l : List ReplicaD) (r : ReplicaD) : Bool := l.any fun a => decide (a = r)
theorem slicesContainsReplica {v : Value} {l : List ReplicaD} {r : ReplicaD} (hB : B ≤ w.heap.size) (hv : Sl w B (some 2) 2 v (l.map replicaV)) : Ret Tryz.prog 140 #[v, replicaV r] w (.bool (hasB l r)) := by
  have hn : Now w := trivial
  have hx : Ext w w := Ext.refl w
  have hv' := hv.k hB
  (refine callsV_of Tryz.func140 rfl (by kernel_rfl) (by kernel_rfl) ?_; rw [Tryz.results140])
  (repeat' first
    | ((with_reducible refine at_row ?_); refine row1_k (by rfl) (by decide) fun _ _ _ _ _ _ _ => ?_)
    | with_reducible first | refine alloc_k fun _ _ _ _ _ _ => ?_ | refine row_k fun _ _ _ _ _ _ => ?_ | refine fork (fun _ => ?_) fun _ => ?_ | refine forkp (fun _ => ?_) fun _ => ?_ | refine forke (fun _ => ?_) fun _ _ => ?_ | refine tail_k fun _ _ _ => ?_ | refine ext_k fun _ _ _ => ?_ | refine need_a ?_ | refine st_agg (by kernel_rfl) rfl (by simp only [natV, intV, S3, *]) fun _ _ _ _ => ?_ | refine wpd_q_a ?_
    | ((with_reducible refine at_f 145 ?_); refine ret_k (slicesIndexReplica (B := B) (l := l) (r := r) FR FR) fun _ _ _ => ?_)
    | simp (maxDischargeDepth := 3) only [↓X, ↓Y, ↓Q, S1, ↓reduceIte, Nat.reduceEqDiff, Nat.reduceAdd, Int.reduceLT, Int.reduceLE, Int.reduceNeg, Int.reduceBEq, Int.reduceBNe, Int.reduceEq, Nat.reduceLeDiff, Nat.reduceMul, Nat.reduceLT, natV, intV, putAt, idxOk, flatP, *, replicaV]
    | simp (singlePass := true) (maxDischargeDepth := 99) only [*, S2, Nat.reduceLT, replicaV])
  rw [fidx_any]; rfl
theorem worldHas {r : ReplicaD} (hB : B ≤ w.heap.size) (hx0 : WorldR w B hv rv x) : Ret Tryz.prog 124 #[.agg #[hv, rv], replicaV r] w (.bool (hasB x.replicas r)) := by
  have hn : Now w := trivial
  have hx : Ext w w := Ext.refl w
  have hx' := hx0.sk hB
  (refine callsV_of Tryz.func124 rfl (by kernel_rfl) (by kernel_rfl) ?_; rw [Tryz.results124])
  (repeat' first
    | ((with_reducible refine at_row ?_); refine row1_k (by rfl) (by decide) fun _ _ _ _ _ _ _ => ?_)
    | with_reducible first | refine alloc_k fun _ _ _ _ _ _ => ?_ | refine row_k fun _ _ _ _ _ _ => ?_ | refine fork (fun _ => ?_) fun _ => ?_ | refine forkp (fun _ => ?_) fun _ => ?_ | refine forke (fun _ => ?_) fun _ _ => ?_ | refine tail_k fun _ _ _ => ?_ | refine ext_k fun _ _ _ => ?_ | refine need_a ?_ | refine st_agg (by kernel_rfl) rfl (by simp only [natV, intV, S3, *]) fun _ _ _ _ => ?_ | refine wpd_q_a ?_
    | ((with_reducible refine at_f 140 ?_); refine ret_k (slicesContainsReplica (B := B) (l := x.replicas) (r := r) FR FR) fun _ _ _ => ?_)
    | simp (maxDischargeDepth := 3) only [↓X, ↓Y, ↓Q, S1, ↓reduceIte, Nat.reduceEqDiff, Nat.reduceAdd, Int.reduceLT, Int.reduceLE, Int.reduceNeg, Int.reduceBEq, Int.reduceBNe, Int.reduceEq, Nat.reduceLeDiff, Nat.reduceMul, Nat.reduceLT, natV, intV, putAt, idxOk, flatP, *, replicaV]
    | simp (singlePass := true) (maxDischargeDepth := 99) only [*, S2, Nat.reduceLT, replicaV])
end
end Go.Proofs.YtgickfllblmhpaaGreatDoor
/- The document's answer, layer 13, and the layer world: Where, Runs, Used. -/
namespace Go.Proofs.YtgickfllblmhpaaGreatDoor
set_option linter.unusedSimpArgs false
set_option linter.unusedVariables false
open Go Go.RowKit
set_option maxRecDepth 100000
set_option linter.unusedSectionVars false
set_option maxHeartbeats 1000000
theorem filter_take {α : Type} {l : List α} {k : Nat} (h : k < l.length) (p : α → Bool) : (l.take (k + 1)).filter p = (l.take k).filter p ++ if p l[k] = true then [l[k]] else [] := by
  rw [List.take_succ_eq_append_getElem h, List.filter_append]
  congr 1
  rw [List.filter_cons]
  split <;> simp_all
theorem where_take {l : List ReplicaD} {k : Nat} (h : k < l.length) (svc : Int) : whereF svc (l.take (k + 1)) = whereF svc (l.take k) ++ if l[k].service = svc then [l[k].host] else [] := by
  unfold whereF
  rw [filter_take h, List.map_append]
  congr 1
  by_cases e : l[k].service = svc <;> simp [e]
theorem where_len (l : List ReplicaD) (svc : Int) : (whereF svc l).length ≤ l.length := by
  unfold whereF
  rw [List.length_map]
  exact List.length_filter_le _ _
theorem app_int {w : World} {B b cp : Nat} {s : Value} {l : List Int} (x : Int) {k : Value → World → Prop} (hown : Own w B 3 1 s (l.map intC)) (hb : Blk w b 3 [.int .i64 x]) (hbound : l.length < 1000000000000) (hB : B ≤ w.heap.size)
    (h : ∀ v' w', Now w' → Sa B w w' → Own w' B 3 1 v' ((l ++ [x]).map intC) → k v' w') : appX Tryz.prog 39 39 39 s (.slice (some ⟨b, 0, none⟩) 1 cp) w k :=
  append_k (e := 3) (sz := 1) (by_ := 8) (z := .int .i64 0) (c := intC) x (by kernel_rfl) (by kernel_rfl) rfl (by decide) (by decide) hown hb rfl (by simp [intC, intV, one_int]) hbound hB h
section
variable {w : World} {B : Nat} {u : SiteVs} {s : SiteD} {wv hv rv : Value} {l : List SrvV} {x : WorldD}
end
end Go.Proofs.YtgickfllblmhpaaGreatDoor
/- The document's answer, layer 13, and the layer world: Where (the document's), Runs, Used. -/
namespace Go.Proofs.YtgickfllblmhpaaGreatDoor
set_option linter.unusedSimpArgs false
set_option linter.unusedVariables false
open Go Go.RowKit
set_option maxRecDepth 100000
set_option linter.unusedSectionVars false
set_option maxHeartbeats 1000000
theorem usedF_app (wl : List ServiceD) (host : Int) : ∀ (a b : List ReplicaD) (acc : Int), usedF wl host acc (a ++ b) = usedF wl host (usedF wl host acc a) b
  | [], _, _ => rfl
  | r :: a, b, acc => by rw [List.cons_append, usedF, usedF, usedF_app wl host a b]
theorem used_take {l : List ReplicaD} {k : Nat} (h : k < l.length) (wl : List ServiceD) (host : Int) : usedF wl host 0 (l.take (k + 1)) = if l[k].host = host ∧ idx l[k].service wl.length = true then IntKind.i64.wrap (usedF wl host 0 (l.take k) + coresAt wl l[k].service) else usedF wl host 0 (l.take k) := by
  rw [List.take_succ_eq_append_getElem h, usedF_app, usedF, usedF]
theorem coresAt_nat (l : List SrvV) {j : Nat} (h : j < l.length) : coresAt (l.map (·.x)) (j : Int) = l[j].x.cores := by
  simp [coresAt, h]
section
variable {w : World} {B : Nat} {u : SiteVs} {s : SiteD} {wv hv rv : Value} {l : List SrvV} {x : WorldD}
end
end Go.Proofs.YtgickfllblmhpaaGreatDoor
