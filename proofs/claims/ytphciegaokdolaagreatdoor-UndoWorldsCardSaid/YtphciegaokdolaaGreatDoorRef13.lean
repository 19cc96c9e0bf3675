/- The document's answer, layer 13: what only looks. -/
import Derived.Test.YtphciegaokdolaaGreatDoorRef12
namespace Go.Proofs.YtphciegaokdolaaGreatDoor
set_option linter.unusedSimpArgs false
set_option linter.unusedVariables false
open Go Go.RowKit
set_option maxRecDepth 100000
set_option linter.unusedSectionVars false
set_option maxHeartbeats 1000000
theorem sxRef130 {p q : Prop} (hq : q) (h : p = q := by first | (simp (maxDischargeDepth := 3) only [↓X, ↓Y, ↓Q, S1, ↓reduceIte, Nat.reduceEqDiff, Nat.reduceAdd, Int.reduceLT, Int.reduceLE, Int.reduceNeg, Int.reduceBEq, Int.reduceBNe, Int.reduceEq, Nat.reduceLeDiff, Nat.reduceMul, Nat.reduceLT, *, replicaV]; try exact rfl) | (simp (singlePass := true) (maxDischargeDepth := 99) only [*, S2, Nat.reduceLT, replicaV]; try exact rfl)) : p := h ▸ hq
theorem sxRef132 {p q : Prop} (hq : q) (h : p = q := by first | (simp (maxDischargeDepth := 3) only [↓X, ↓Y, ↓Q, S1, ↓reduceIte, Nat.reduceEqDiff, Nat.reduceAdd, Int.reduceLT, Int.reduceLE, Int.reduceNeg, Int.reduceBEq, Int.reduceBNe, Int.reduceEq, Nat.reduceLeDiff, Nat.reduceMul, Nat.reduceLT, *, srvV, srvC]; try exact rfl) | (simp (singlePass := true) (maxDischargeDepth := 99) only [*, S2, Nat.reduceLT, srvV, srvC]; try exact rfl)) : p := h ▸ hq
theorem sxRef133 {p q : Prop} (hq : q) (h : p = q := by first | (simp (maxDischargeDepth := 3) only [↓X, ↓Y, ↓Q, S1, ↓reduceIte, Nat.reduceEqDiff, Nat.reduceAdd, Int.reduceLT, Int.reduceLE, Int.reduceNeg, Int.reduceBEq, Int.reduceBNe, Int.reduceEq, Nat.reduceLeDiff, Nat.reduceMul, Nat.reduceLT, *, List.take_zero, List.all_nil, List.any_nil]; try exact rfl) | (simp (singlePass := true) (maxDischargeDepth := 99) only [*, S2, Nat.reduceLT, List.take_zero, List.all_nil, List.any_nil]; try exact rfl)) : p := h ▸ hq
theorem sxRef134 {p q : Prop} (hq : q) (h : p = q := by first | (simp (maxDischargeDepth := 3) only [↓X, ↓Y, ↓Q, S1, ↓reduceIte, Nat.reduceEqDiff, Nat.reduceAdd, Int.reduceLT, Int.reduceLE, Int.reduceNeg, Int.reduceBEq, Int.reduceBNe, Int.reduceEq, Nat.reduceLeDiff, Nat.reduceMul, Nat.reduceLT, *, stateV]; try exact rfl) | (simp (singlePass := true) (maxDischargeDepth := 99) only [*, S2, Nat.reduceLT, stateV]; try exact rfl)) : p := h ▸ hq
theorem sxRef135 {p q : Prop} (hq : q) (h : p = q := by first | (simp (maxDischargeDepth := 3) only [↓X, ↓Y, ↓Q, S1, ↓reduceIte, Nat.reduceEqDiff, Nat.reduceAdd, Int.reduceLT, Int.reduceLE, Int.reduceNeg, Int.reduceBEq, Int.reduceBNe, Int.reduceEq, Nat.reduceLeDiff, Nat.reduceMul, Nat.reduceLT, *, replicaV, siteC]; try exact rfl) | (simp (singlePass := true) (maxDischargeDepth := 99) only [*, S2, Nat.reduceLT, replicaV, siteC]; try exact rfl)) : p := h ▸ hq
theorem sxRef136 {p q : Prop} (hq : q) (h : p = q := by first | (simp (maxDischargeDepth := 3) only [↓X, ↓Y, ↓Q, S1, ↓reduceIte, Nat.reduceEqDiff, Nat.reduceAdd, Int.reduceLT, Int.reduceLE, Int.reduceNeg, Int.reduceBEq, Int.reduceBNe, Int.reduceEq, Nat.reduceLeDiff, Nat.reduceMul, Nat.reduceLT, *, siteC]; try exact rfl) | (simp (singlePass := true) (maxDischargeDepth := 99) only [*, S2, Nat.reduceLT, siteC]; try exact rfl)) : p := h ▸ hq
theorem ref13Less {w : World} {a b : ReplicaD} : Ret Tryz.prog 129 #[replicaV a, replicaV b] w (.bool (decide (ordI a b < 0))) := by
  have hn : Now w := trivial
  have hx : Ext w w := Ext.refl w
  (refine callsV_of Tryz.func129 rfl KR KR ?_; rw [Tryz.results129])
  (repeat' first
    | with_reducible first | exact ⟨⟩ | (refine Brg.mk ?_; intros) | refine Two.mk ?_ ?_
    | refine gs ?_
    | refine sxRef130 ?_)
  all_goals (simp only [ordI, cmpI]; (repeat' split) <;> simp_all <;> omega)
theorem ref13Ascending {w : World} {v : Value} {l : List ReplicaD} {B : Nat} (hB : B ≤ w.heap.size) (hv : Sl w B (some 2) 2 v (l.map replicaV)) : Ret Tryz.prog 85 #[v] w (.bool (sortedB l)) := by
  have hn : Now w := trivial
  have hx : Ext w w := Ext.refl w
  have hk := hv.k hB
  have hmax := hv.max_
  (refine callsV_of Tryz.func85 rfl KR KR ?_; rw [Tryz.results85])
  (repeat' first
    | with_reducible first | exact ⟨⟩ | (refine Brg.mk ?_; intros) | refine Two.mk ?_ ?_
    | refine gs ?_
    | refine sx ?_)
  refine loop_k l.length (fun g0 k g _ => g 3 = .int .i64 ((k + 1 : Nat) : Int) ∧ (g 0 = g0 0) ∧ Hid (∀ j (h : j + 1 < l.length), j < k → ordI l[j] l[j + 1] < 0)) KR hmax ?_ ?_ ?_
  · (repeat' first
    | with_reducible first | exact ⟨⟩ | (refine Brg.mk ?_; intros) | refine Two.mk ?_ ?_
    | refine gs ?_
    | refine sx ?_)
    exact ⟨rfl, fun j _ h => absurd h (by omega)⟩
  · rintro k m g wk hk hlt _ _ _ hw ⟨hi, hf, hp⟩
    simp (maxDischargeDepth := 3) only [U, ↓reduceIte, Nat.reduceEqDiff, *] at hf
    by_cases h1 : k + 1 < l.length
    · have hw1 : IntKind.i64.wrap (((k + 1 : Nat) : Int) - 1) = (k : Int) := by rw [show ((k + 1 : Nat) : Int) - 1 = (k : Int) by omega, wrap_nat (by omega)]
      have hw2 : IntKind.i64.wrap (((k + 1 : Nat) : Int) + 1) = ((k + 1 + 1 : Nat) : Int) := by rw [wrap_i64_id] <;> omega
      (repeat' first
    | with_reducible first | exact ⟨⟩ | (refine Brg.mk ?_; intros) | refine Two.mk ?_ ?_
    | refine gs ?_
    | ((with_reducible refine at_q 129 ?_); refine qret_k (fun _ _ _ => ref13Less) ?_)
    | refine sx ?_)
      · rename_i h
        refine next_k hk hlt ?_ FR
        (repeat' first
    | with_reducible first | exact ⟨⟩ | (refine Brg.mk ?_; intros) | refine Two.mk ?_ ?_
    | refine gs ?_
    | refine sx ?_)
        refine fun j hj hjk => ?_
        rcases Nat.lt_or_eq_of_le (Nat.le_of_lt_succ hjk) with h3 | rfl
        · exact hp.out j hj h3
        · simpa using h
      · rename_i h
        have : sortedB l = false := by
          rw [← Bool.not_eq_true, sortedB_iff]
          exact fun h2 => absurd (h2 k h1) (by simpa using h)
        rw [this]
    · (repeat' first
    | with_reducible first | exact ⟨⟩ | (refine Brg.mk ?_; intros) | refine Two.mk ?_ ?_
    | refine gs ?_
    | refine sx ?_)
      have : sortedB l = true := sortedB_iff.2 fun i hi => hp.out i hi (by omega)
      rw [this]
  · rintro g wk _ _ _ ⟨hi, hf, hp⟩
    simp (maxDischargeDepth := 3) only [U, ↓reduceIte, Nat.reduceEqDiff, *] at hf
    have hl : ¬ l.length + 1 < l.length := by omega
    (repeat' first
    | with_reducible first | exact ⟨⟩ | (refine Brg.mk ?_; intros) | refine Two.mk ?_ ?_
    | refine gs ?_
    | refine sx ?_)
    have : sortedB l = true := sortedB_iff.2 fun i hi => hp.out i hi (by omega)
    rw [this]
end Go.Proofs.YtphciegaokdolaaGreatDoor
/- The document's answer, layer 13, and the layer world: ValidWish, Valid, Where, Runs, Has, Used. -/
namespace Go.Proofs.YtphciegaokdolaaGreatDoor
set_option linter.unusedSimpArgs false
set_option linter.unusedVariables false
open Go Go.RowKit
set_option maxRecDepth 100000
set_option linter.unusedSectionVars false
set_option maxHeartbeats 1000000
def stateB (x : StateD) : Bool := decide (x.phase ≤ 4) && btw x.firmware 0 1000000
def replB (n m : Int) (r : ReplicaD) : Bool := idx r.service n && idx r.host m
def validB (s : SiteD) (wl : List ServiceD) (x : WorldD) : Bool := siteB s && wishB wl && decide (x.hosts.length = s.hosts.length) && decide (x.replicas.length ≤ 24) && sortedB x.replicas && x.hosts.all stateB && x.replicas.all (replB wl.length s.hosts.length)
theorem asc_cons {n i c a : Int} {r : List Int} : ascB n i c (a :: r) = (decide (c < a) && decide (a < n) && !(a == i) && ascB n i a r) := rfl
def srvHead (x : ServiceD) : Bool := btw x.cores 1 1000 && btw x.replicas 0 24 && btw x.least 0 x.replicas && btw x.firmware 0 1000000 && spreadB x
theorem serviceB_eq (n i : Int) (x : ServiceD) : serviceB n i x = (srvHead x && ascB n i (-1) x.apart && ascB n i (-1) (x.near.map (·.service)) && x.near.all fun k => btw k.latency 0 1000000) := rfl
section
variable {w : World} {B : Nat} {u : SiteVs} {s : SiteD} {wv hv rv : Value} {l : List SrvV} {x : WorldD}
theorem ref13service (hB : B ≤ w.heap.size) (hl : WishR w B wv l) {q : Nat} (hq : q < l.length) : Ret Tryz.prog 141 #[.agg #[wv], natV q] w (.bool (serviceB l.length q l[q].x)) := by
  have hn : Now w := trivial
  have hx : Ext w w := Ext.refl w
  have hl' := hl.sk hB
  have ha := hl.a _ (List.getElem_mem hq)
  have hn' := hl.n _ (List.getElem_mem hq)
  have ha' := ha.k hB
  have hn2 := hn'.k hB
  generalize hsrv : l[q] = sv at *
  have hone1 := ha.one
  have hone2 := hn'.one
  (refine callsV_of Tryz.func141 rfl KR KR ?_; rw [Tryz.results141])
  have hfal : srvHead sv.x = false → Value.bool false = Value.bool (serviceB l.length q sv.x) := fun h => by rw [serviceB_eq, h]; simp only [Bool.false_and]
  (repeat' first
    | with_reducible first | exact ⟨⟩ | (refine Brg.mk ?_; intros) | refine Two.mk ?_ ?_
    | refine gs ?_
    | refine sxRef132 ?_)
  all_goals (try (refine hfal (Bool.eq_false_iff.2 fun h => ?_); simp only [srvHead, btw, spreadB, Bool.and_eq_true, decide_eq_true_eq] at h; split at h <;> (try simp only [beq_iff_eq, Bool.and_eq_true, decide_eq_true_eq] at h) <;> omega))
  all_goals
    have hhead : srvHead sv.x = true := by
      simp only [srvHead, btw, spreadB, Bool.and_eq_true, decide_eq_true_eq]
      refine ⟨by omega, ?_⟩
      split <;> (try simp only [beq_iff_eq, Bool.and_eq_true, decide_eq_true_eq]) <;> omega
    refine loop_k (sv.x.apart.length) (fun g0 k g _ => g 7 = .int .i64 k ∧ (g 1 = g0 1 ∧ g 2 = g0 2 ∧ g 5 = g0 5) ∧ ∃ c : Int, g 6 = .int .i64 c ∧ Hid (ascB l.length q c (sv.x.apart.drop k) = ascB l.length q (-1) sv.x.apart)) KR (ha.max_) ?_ ?_ ?_
    · (repeat' first
    | with_reducible first | exact ⟨⟩ | (refine Brg.mk ?_; intros) | refine Two.mk ?_ ?_
    | refine gs ?_
    | refine sxRef133 ?_)
      exact ⟨-1, rfl, rfl⟩
    · rintro k m g wk hk hlt _ _ _ hw ⟨hi, hf, hp⟩
      simp (maxDischargeDepth := 3) only [U, ↓reduceIte, Nat.reduceEqDiff, *] at hf
      obtain ⟨c, h6, hm⟩ := hp
      have hm := hm.out
      rw [List.drop_eq_getElem_cons hlt, asc_cons] at hm
      have hm : Hid _ := hm
      (repeat' first
    | with_reducible first | exact ⟨⟩ | (refine Brg.mk ?_; intros) | refine Two.mk ?_ ?_
    | refine gs ?_
    | refine sx ?_)
      all_goals first
        | (have hf9 : ascB l.length q (-1) sv.x.apart = false := by
            rw [← hm.out, Bool.eq_false_iff]
            intro h9
            simp only [Bool.and_eq_true, decide_eq_true_eq, Bool.not_eq_true', beq_eq_false_iff_ne] at h9
            omega
           rw [serviceB_eq, hf9]; simp; done)
        | (refine next_k hk hlt ?_ FR
           (repeat' first
    | with_reducible first | exact ⟨⟩ | (refine Brg.mk ?_; intros) | refine Two.mk ?_ ?_
    | refine gs ?_
    | refine sx ?_)
           refine ⟨_, rfl, ?_⟩
           show _ = _
           rw [← hm.out, decide_eq_true (show c < sv.x.apart[k] by omega), decide_eq_true (show sv.x.apart[k] < (l.length : Int) by omega), show (sv.x.apart[k] == (q : Int)) = false by assumption]
           simp)
    · rintro g wk _ _ _ ⟨hi, hf, hp⟩
      simp (maxDischargeDepth := 3) only [U, ↓reduceIte, Nat.reduceEqDiff, *] at hf
      obtain ⟨c, h6, hm⟩ := hp
      have hasc1 : ascB l.length q (-1) sv.x.apart = true := by rw [← hm.out, List.drop_length]; rfl
      clear hm
      (repeat' first
    | with_reducible first | exact ⟨⟩ | (refine Brg.mk ?_; intros) | refine Two.mk ?_ ?_
    | refine gs ?_
    | refine sx ?_)
      refine loop_k (sv.x.near.length) (fun g0 k g _ => g 8 = .int .i64 k ∧ (g 1 = g0 1 ∧ g 2 = g0 2 ∧ g 5 = g0 5) ∧ ∃ c : Int, g 6 = .int .i64 c ∧ Hid (ascB l.length q c ((sv.x.near.drop k).map (·.service)) = ascB l.length q (-1) (sv.x.near.map (·.service))) ∧ Hid ((sv.x.near.take k).all (fun k => btw k.latency 0 1000000) = true)) KR (hn'.max_) ?_ ?_ ?_
      · (repeat' first
    | with_reducible first | exact ⟨⟩ | (refine Brg.mk ?_; intros) | refine Two.mk ?_ ?_
    | refine gs ?_
    | refine sxRef133 ?_)
        exact ⟨-1, rfl, rfl, trivial⟩
      · rintro k m g wk hk hlt _ _ _ hw ⟨hi, hf, hp⟩
        simp (maxDischargeDepth := 3) only [U, ↓reduceIte, Nat.reduceEqDiff, *] at hf
        obtain ⟨c, h6, hm, hlat⟩ := hp
        have hm := hm.out
        rw [List.drop_eq_getElem_cons hlt, List.map_cons, asc_cons] at hm
        have hm : Hid _ := hm
        have hat := all_take hlt (fun k : NearD => btw k.latency 0 1000000)
        (repeat' first
    | with_reducible first | exact ⟨⟩ | (refine Brg.mk ?_; intros) | refine Two.mk ?_ ?_
    | refine gs ?_
    | simp (maxDischargeDepth := 3) only [↓X, ↓Y, ↓Q, S1, ↓reduceIte, Nat.reduceEqDiff, Nat.reduceAdd, Int.reduceLT, Int.reduceLE, Int.reduceNeg, Int.reduceBEq, Int.reduceBNe, Int.reduceEq, Nat.reduceLeDiff, Nat.reduceMul, Nat.reduceLT, *, nearV]
    | simp (singlePass := true) (maxDischargeDepth := 99) only [*, S2, Nat.reduceLT, nearV])
        all_goals first
          | (have hf9 : ascB l.length q (-1) (sv.x.near.map (·.service)) = false := by
              rw [← hm.out, Bool.eq_false_iff]
              intro h9
              simp only [Bool.and_eq_true, decide_eq_true_eq, Bool.not_eq_true', beq_eq_false_iff_ne] at h9
              omega
             rw [serviceB_eq, hf9]; simp; done)
          | (have hf9 : (sv.x.near.all fun k => btw k.latency 0 1000000) = false := all_at hlt (by
              rw [Bool.eq_false_iff]
              intro h9
              simp only [btw, Bool.and_eq_true, decide_eq_true_eq] at h9
              omega)
             rw [serviceB_eq, hf9]; simp; done)
          | (refine next_k hk hlt ?_ FR
             (repeat' first
    | with_reducible first | exact ⟨⟩ | (refine Brg.mk ?_; intros) | refine Two.mk ?_ ?_
    | refine gs ?_
    | refine sx ?_)
             refine ⟨_, rfl, ?_, ?_⟩
             · show _ = _
               rw [← hm.out, decide_eq_true (show c < sv.x.near[k].service by omega), decide_eq_true (show sv.x.near[k].service < (l.length : Int) by omega), show (sv.x.near[k].service == (q : Int)) = false by assumption]
               simp
             · show _ = _
               first | rw [hat, hlat.out] | rw [hlat.out]
               simp only [btw, Bool.true_and, Bool.and_eq_true, decide_eq_true_eq]
               omega)
      · rintro g wk _ _ _ ⟨hi, hf, hp⟩
        simp (maxDischargeDepth := 3) only [U, ↓reduceIte, Nat.reduceEqDiff, *] at hf
        obtain ⟨c, h6, hm, hlat⟩ := hp
        have hasc2 : ascB l.length q (-1) (sv.x.near.map (·.service)) = true := by rw [← hm.out, List.drop_length]; rfl
        have hlat := hlat.out
        rw [take_all] at hlat
        (repeat' first
    | with_reducible first | exact ⟨⟩ | (refine Brg.mk ?_; intros) | refine Two.mk ?_ ?_
    | refine gs ?_
    | refine sx ?_)
        rw [serviceB_eq, hhead, hasc1, hasc2, hlat]
        rfl
end
end Go.Proofs.YtphciegaokdolaaGreatDoor
/- The document's answer, layer 13, and the layer world: ValidWish, Valid, Has. -/
namespace Go.Proofs.YtphciegaokdolaaGreatDoor
set_option linter.unusedSimpArgs false
set_option linter.unusedVariables false
open Go Go.RowKit
set_option maxRecDepth 100000
set_option linter.unusedSectionVars false
set_option maxHeartbeats 1000000
theorem repl_eq {a b : ReplicaD} : ((a.service == b.service) && (a.host == b.host)) = decide (a = b) := by
  cases a; cases b
  rw [Bool.eq_iff_iff]; simp
theorem state_eq {a b : StateD} : ((a.phase == b.phase) && (a.firmware == b.firmware)) = decide (a = b) := by
  cases a; cases b
  rw [Bool.eq_iff_iff]; simp
theorem dec_not {p : Prop} [Decidable p] {w : World} {A B : World → Prop} : forkX (!decide p) w A B = forkP p w B A := by
  by_cases h : p <;> simp [forkX, forkP, h]
theorem srvsB_get : ∀ {n : Int} {l : List ServiceD} {i : Nat}, srvsB n i l = true ↔ ∀ j (h : j < l.length), serviceB n ((i + j : Nat) : Int) l[j] = true
  | n, [], i => by simp [srvsB]
  | n, a :: l, i => by
    rw [srvsB, Bool.and_eq_true, srvsB_get]
    constructor
    · rintro ⟨h1, h2⟩ j hj
      cases j with
      | zero => exact h1
      | succ j => have := h2 j (by simpa using hj); rw [show i + 1 + j = i + (j + 1) by omega] at this; exact this
    · intro h
      refine ⟨h 0 (by simp), fun j hj => ?_⟩
      have := h (j + 1) (by simpa using hj)
      rw [show i + (j + 1) = i + 1 + j by omega] at this
      exact this
theorem sumR_take : ∀ (l : List ServiceD) (k : Nat) (h : k < l.length), sumR (l.take (k + 1)) = sumR (l.take k) + l[k].replicas
  | [], k, h => absurd h (by simp)
  | a :: l, 0, _ => by simp [sumR]
  | a :: l, k + 1, h => by
    have := sumR_take l k (by simpa using h)
    simp only [List.take_succ_cons, sumR, List.getElem_cons_succ, this]
    omega
section
variable {w : World} {B : Nat} {u : SiteVs} {s : SiteD} {wv hv rv : Value} {l : List SrvV} {x : WorldD}
theorem ref13ValidWish (hB : B ≤ w.heap.size) (hl : WishR w B wv l) : Ret Tryz.prog 84 #[.agg #[wv]] w (.bool (wishB (l.map (·.x)))) := by
  have hn : Now w := trivial
  have hx : Ext w w := Ext.refl w
  have hl' := hl.sk hB
  have hW := hl'.2.2
  have hlen : (l.map (·.x)).length = l.length := by simp
  (refine callsV_of Tryz.func84 rfl KR KR ?_; rw [Tryz.results84])
  (repeat' first
    | with_reducible first | exact ⟨⟩ | (refine Brg.mk ?_; intros) | refine Two.mk ?_ ?_
    | refine gs ?_
    | refine sx ?_)
  · have : wishB (l.map (·.x)) = false := by
      simp only [wishB, hlen]
      rw [decide_eq_false (by omega)]; simp
    rw [this]
  · rename_i h8
    refine loop_k l.length (fun g0 k g _ => g 4 = .int .i64 k ∧ (g 1 = g0 1) ∧ Hid (∀ j (h : j < l.length), j < k → serviceB l.length j l[j].x = true) ∧ g 3 = .int .i64 (sumR ((l.map (·.x)).take k)) ∧ 0 ≤ sumR ((l.map (·.x)).take k) ∧ sumR ((l.map (·.x)).take k) ≤ 24 * k) KR hl.v.max_ ?_ ?_ ?_
    · (repeat' first
    | with_reducible first | exact ⟨⟩ | (refine Brg.mk ?_; intros) | refine Two.mk ?_ ?_
    | refine gs ?_
    | refine sx ?_)
      exact ⟨fun j _ h => absurd h (by omega), rfl, Int.le_refl _, Int.le_refl _⟩
    · rintro k m g wk hk hlt _ _ _ hw ⟨hi, hf, hp, h3, h4, h5⟩
      simp (maxDischargeDepth := 3) only [U, ↓reduceIte, Nat.reduceEqDiff, *] at hf
      have hst := sumR_take (l.map (·.x)) k (by simpa using hlt)
      simp only [List.getElem_map] at hst
      have hcc : ∃ c, serviceB l.length k l[k].x = c := ⟨_, rfl⟩
      obtain ⟨c, hc0⟩ := hcc
      have hc : Hid (serviceB l.length k l[k].x = c) := hc0
      clear hc0
      have hsv := fun w' (h : Bl B w w') (hB' : B ≤ w'.heap.size) => ref13service hB' (hW w' h) hlt
      rw [hc.out] at hsv
      generalize sumR ((l.map (·.x)).take k) = sm at *
      have hfin : c = false → wishB (l.map (·.x)) = false := by
        intro h
        rw [h] at hc
        have : srvsB l.length 0 (l.map (·.x)) = false := by
          rw [Bool.eq_false_iff, Ne, srvsB_get]
          intro h2
          have := h2 k (by simpa using hlt)
          simp only [List.getElem_map, Nat.zero_add] at this
          rw [hc.out] at this
          cases this
        simp only [wishB, hlen, this, Bool.and_false, Bool.false_and]
      have hgood : c = true → 0 ≤ l[k].x.replicas ∧ l[k].x.replicas ≤ 24 := by
        intro h
        have h2 := hc.out
        rw [h, serviceB_eq] at h2
        simp only [Bool.and_eq_true, srvHead, btw, decide_eq_true_eq] at h2
        omega
      cases c
      · clear hgood
        (repeat' first
    | with_reducible first | exact ⟨⟩ | (refine Brg.mk ?_; intros) | refine Two.mk ?_ ?_
    | refine gs ?_
    | ((with_reducible refine at_f 141 ?_); refine ret_k (hsv _ FR FR) fun _ _ _ => ?_)
    | refine sx ?_)
        all_goals rw [hfin rfl]
      · have hr := hgood rfl
        clear hfin hgood
        have hw3 : IntKind.i64.wrap (sm + l[k].x.replicas) = sm + l[k].x.replicas := by rw [wrap_i64_id] <;> omega
        (repeat' first
    | with_reducible first | exact ⟨⟩ | (refine Brg.mk ?_; intros) | refine Two.mk ?_ ?_
    | refine gs ?_
    | ((with_reducible refine at_f 141 ?_); refine ret_k (hsv _ FR FR) fun _ _ _ => ?_)
    | refine sxRef132 ?_)
        refine next_k hk hlt ?_ FR
        (repeat' first
    | with_reducible first | exact ⟨⟩ | (refine Brg.mk ?_; intros) | refine Two.mk ?_ ?_
    | refine gs ?_
    | simp (maxDischargeDepth := 3) only [↓X, ↓Y, ↓Q, S1, ↓reduceIte, Nat.reduceEqDiff, Nat.reduceAdd, Int.reduceLT, Int.reduceLE, Int.reduceNeg, Int.reduceBEq, Int.reduceBNe, Int.reduceEq, Nat.reduceLeDiff, Nat.reduceMul, Nat.reduceLT, *, hst]
    | simp (singlePass := true) (maxDischargeDepth := 99) only [*, S2, Nat.reduceLT, hst])
        refine ⟨fun j hj hjk => ?_, by omega, by omega⟩
        rcases Nat.lt_or_eq_of_le (Nat.le_of_lt_succ hjk) with h1 | rfl
        · exact hp.out j hj h1
        · exact hc.out
    · rintro g wk _ _ _ ⟨hi, hf, hp, h3, h4, h5⟩
      simp (maxDischargeDepth := 3) only [U, ↓reduceIte, Nat.reduceEqDiff, *] at hf
      have ht : (l.map (·.x)).take l.length = l.map (·.x) := by rw [← hlen]; exact take_all _
      rw [ht] at h3
      (repeat' first
    | with_reducible first | exact ⟨⟩ | (refine Brg.mk ?_; intros) | refine Two.mk ?_ ?_
    | refine gs ?_
    | refine sx ?_)
      have hs : srvsB l.length 0 (l.map (·.x)) = true := srvsB_get.2 fun j hj => by
        have := hp.out j (by simpa using hj) (by simpa using hj)
        simpa using this
      simp only [wishB, hlen, hs, Bool.and_true]
      rw [decide_eq_true (show (l.length : Int) ≤ 8 by omega), Bool.true_and]
theorem slicesIndexReplica {v : Value} {l : List ReplicaD} {r : ReplicaD} (hB : B ≤ w.heap.size) (hv : Sl w B (some 2) 2 v (l.map replicaV)) : Ret Tryz.prog 213 #[v, replicaV r] w (intV (fidx (fun a => decide (a = r)) l)) := by
  have hn : Now w := trivial
  have hx : Ext w w := Ext.refl w
  have hv' := hv.k hB
  (refine callsV_of Tryz.func213 rfl KR KR ?_; rw [Tryz.results213])
  (repeat' first
    | with_reducible first | exact ⟨⟩ | (refine Brg.mk ?_; intros) | refine Two.mk ?_ ?_
    | refine gs ?_
    | refine sxRef130 ?_)
  refine loop_k (l.length) (fun g0 k g _ => g 8 = .int .i64 k ∧ (g 0 = g0 0 ∧ g 3 = g0 3 ∧ g 7 = g0 7) ∧ Hid (∀ j (h : j < l.length), j < k → ¬ l[j] = r)) KR (hv.max_) ?_ ?_ ?_
  · (repeat' first
    | with_reducible first | exact ⟨⟩ | (refine Brg.mk ?_; intros) | refine Two.mk ?_ ?_
    | refine gs ?_
    | refine sxRef133 ?_)
    exact fun j _ h => absurd h (by omega)
  · rintro k m g wk hk hlt _ _ _ hw ⟨hi, hf, hp⟩
    simp (maxDischargeDepth := 3) only [U, ↓reduceIte, Nat.reduceEqDiff, *] at hf
    (repeat' first
    | with_reducible first | exact ⟨⟩ | (refine Brg.mk ?_; intros) | refine Two.mk ?_ ?_
    | refine gs ?_
    | simp (maxDischargeDepth := 3) only [↓X, ↓Y, ↓Q, S1, ↓reduceIte, Nat.reduceEqDiff, Nat.reduceAdd, Int.reduceLT, Int.reduceLE, Int.reduceNeg, Int.reduceBEq, Int.reduceBNe, Int.reduceEq, Nat.reduceLeDiff, Nat.reduceMul, Nat.reduceLT, *, replicaV, repl_eq]
    | simp (singlePass := true) (maxDischargeDepth := 99) only [*, S2, Nat.reduceLT, replicaV, repl_eq])
    · rename_i h
      rw [fidx_found hlt (by simp [h]) (fun j hj hjk => by simpa [h] using hp.out j hj hjk)]
    · rename_i h
      refine next_k hk hlt ?_ FR
      (repeat' first
    | with_reducible first | exact ⟨⟩ | (refine Brg.mk ?_; intros) | refine Two.mk ?_ ?_
    | refine gs ?_
    | refine sx ?_)
      intro j hj hjk
      rcases Nat.lt_or_eq_of_le (Nat.le_of_lt_succ hjk) with h1 | rfl
      · exact hp.out j hj h1
      · exact fun e => h e.symm
  · rintro g wk _ _ _ ⟨hi, hf, hp⟩
    simp (maxDischargeDepth := 3) only [U, ↓reduceIte, Nat.reduceEqDiff, *] at hf
    (repeat' first
    | with_reducible first | exact ⟨⟩ | (refine Brg.mk ?_; intros) | refine Two.mk ?_ ?_
    | refine gs ?_
    | refine sx ?_)
    rw [fidx_none (fun j hj => by simp [hp.out j hj hj])]
def hasB (l : List ReplicaD) (r : ReplicaD) : Bool := l.any fun a => decide (a = r)
theorem slicesContainsReplica {v : Value} {l : List ReplicaD} {r : ReplicaD} (hB : B ≤ w.heap.size) (hv : Sl w B (some 2) 2 v (l.map replicaV)) : Ret Tryz.prog 186 #[v, replicaV r] w (.bool (hasB l r)) := by
  have hn : Now w := trivial
  have hx : Ext w w := Ext.refl w
  have hv' := hv.k hB
  (refine callsV_of Tryz.func186 rfl KR KR ?_; rw [Tryz.results186])
  (repeat' first
    | with_reducible first | exact ⟨⟩ | (refine Brg.mk ?_; intros) | refine Two.mk ?_ ?_
    | refine gs ?_
    | ((with_reducible refine at_f 213 ?_); refine ret_k (slicesIndexReplica (B := B) (l := l) (r := r) FR FR) fun _ _ _ => ?_)
    | refine sxRef130 ?_)
  rw [fidx_any]; rfl
theorem worldHas {r : ReplicaD} (hB : B ≤ w.heap.size) (hx0 : WorldR w B hv rv x) : Ret Tryz.prog 131 #[.agg #[hv, rv], replicaV r] w (.bool (hasB x.replicas r)) := by
  have hn : Now w := trivial
  have hx : Ext w w := Ext.refl w
  have hx' := hx0.sk hB
  (refine callsV_of Tryz.func131 rfl KR KR ?_; rw [Tryz.results131])
  (repeat' first
    | with_reducible first | exact ⟨⟩ | (refine Brg.mk ?_; intros) | refine Two.mk ?_ ?_
    | refine gs ?_
    | ((with_reducible refine at_f 186 ?_); refine ret_k (slicesContainsReplica (B := B) (l := x.replicas) (r := r) FR FR) fun _ _ _ => ?_)
    | refine sxRef130 ?_)
theorem ref13Has {r : ReplicaD} (hB : B ≤ w.heap.size) (hx0 : WorldR w B hv rv x) : Ret Tryz.prog 128 #[.agg #[hv, rv], replicaV r] w (.bool (hasB x.replicas r)) := by
  have hn : Now w := trivial
  have hx : Ext w w := Ext.refl w
  have hx' := hx0.sk hB
  (refine callsV_of Tryz.func128 rfl KR KR ?_; rw [Tryz.results128])
  (repeat' first
    | with_reducible first | exact ⟨⟩ | (refine Brg.mk ?_; intros) | refine Two.mk ?_ ?_
    | refine gs ?_
    | refine sxRef130 ?_)
  refine loop_k (x.replicas.length) (fun g0 k g _ => g 5 = .int .i64 k ∧ (g 2 = g0 2 ∧ g 3 = g0 3) ∧ Hid (∀ j (h : j < x.replicas.length), j < k → ¬ x.replicas[j] = r)) KR (hx0.r.max_) ?_ ?_ ?_
  · (repeat' first
    | with_reducible first | exact ⟨⟩ | (refine Brg.mk ?_; intros) | refine Two.mk ?_ ?_
    | refine gs ?_
    | refine sxRef133 ?_)
    exact fun j _ h => absurd h (by omega)
  · rintro k m g wk hk hlt _ _ _ hw ⟨hi, hf, hp⟩
    simp (maxDischargeDepth := 3) only [U, ↓reduceIte, Nat.reduceEqDiff, *] at hf
    (repeat' first
    | with_reducible first | exact ⟨⟩ | (refine Brg.mk ?_; intros) | refine Two.mk ?_ ?_
    | refine gs ?_
    | simp (maxDischargeDepth := 3) only [↓X, ↓Y, ↓Q, S1, ↓reduceIte, Nat.reduceEqDiff, Nat.reduceAdd, Int.reduceLT, Int.reduceLE, Int.reduceNeg, Int.reduceBEq, Int.reduceBNe, Int.reduceEq, Nat.reduceLeDiff, Nat.reduceMul, Nat.reduceLT, *, replicaV, repl_eq]
    | simp (singlePass := true) (maxDischargeDepth := 99) only [*, S2, Nat.reduceLT, replicaV, repl_eq])
    · rename_i h
      have : hasB x.replicas r = true := any_at hlt (by simp [h])
      rw [this]
    · rename_i h
      refine next_k hk hlt ?_ FR
      (repeat' first
    | with_reducible first | exact ⟨⟩ | (refine Brg.mk ?_; intros) | refine Two.mk ?_ ?_
    | refine gs ?_
    | refine sx ?_)
      intro j hj hjk
      rcases Nat.lt_or_eq_of_le (Nat.le_of_lt_succ hjk) with h1 | rfl
      · exact hp.out j hj h1
      · exact h
  · rintro g wk _ _ _ ⟨hi, hf, hp⟩
    simp (maxDischargeDepth := 3) only [U, ↓reduceIte, Nat.reduceEqDiff, *] at hf
    (repeat' first
    | with_reducible first | exact ⟨⟩ | (refine Brg.mk ?_; intros) | refine Two.mk ?_ ?_
    | refine gs ?_
    | refine sx ?_)
    have : hasB x.replicas r = false := by
      rw [hasB, List.any_eq_false]
      intro a ha
      obtain ⟨j, hj, rfl⟩ := List.getElem_of_mem ha
      simp [hp.out j hj hj]
    rw [this]
theorem worldValid1 {h : StateD} : Ret Tryz.prog 105 #[stateV h] w (.bool (!stateB h)) := by
  have hn : Now w := trivial
  have hx : Ext w w := Ext.refl w
  (refine callsV_of Tryz.func105 rfl KR KR ?_; rw [Tryz.results105])
  (repeat' first
    | with_reducible first | exact ⟨⟩ | (refine Brg.mk ?_; intros) | refine Two.mk ?_ ?_
    | refine gs ?_
    | ((with_reducible refine at_f 106 ?_); refine ret_k (worldBetween) fun _ _ _ => ?_)
    | refine sxRef134 ?_)
  all_goals (simp_all [stateB])
theorem worldValid2 {b4 b3 : Nat} {r : ReplicaD} (hB : B ≤ w.heap.size) (hs : SiteR w B u s) (hl : WishR w B wv l) (hb3 : Blk w b3 29 (siteC u s)) (hb4 : Blk w b4 32 [wv]) :
    Ret Tryz.prog 107 #[replicaV r, .pointer (some ⟨b4, 0, none⟩), .pointer (some ⟨b3, 0, none⟩)] w (.bool (!replB l.length s.hosts.length r)) := by
  have hn : Now w := trivial
  have hx : Ext w w := Ext.refl w
  have hs' := hs.sk hB
  have hl' := hl.sk hB
  have k3 := hb3.bk
  have k4 := hb4.bk
  have w1 := wrap_pred hl.v.max_
  have w2 := wrap_pred hs.h.max_
  (refine callsV_of Tryz.func107 rfl KR KR ?_; rw [Tryz.results107])
  (repeat' first
    | with_reducible first | exact ⟨⟩ | (refine Brg.mk ?_; intros) | refine Two.mk ?_ ?_
    | refine gs ?_
    | ((with_reducible refine at_f 106 ?_); refine ret_k (worldBetween) fun _ _ _ => ?_)
    | refine sxRef135 ?_)
  all_goals (simp_all [replB, btw_idx])
theorem worldValid (hB : B ≤ w.heap.size) (hs : SiteR w B u s) (hl : WishR w B wv l) (hx0 : WorldR w B hv rv x) : Ret Tryz.prog 53 #[.agg (siteC u s).toArray, .agg #[wv], .agg #[hv, rv]] w (.bool (validB s (l.map (·.x)) x)) := by
  have hn : Now w := trivial
  have hx : Ext w w := Ext.refl w
  have hs' := hs.sk hB
  have hl' := hl.sk hB
  have hx' := hx0.sk hB
  have hS := hs'.2.2.2.2.2.2
  have hW := hl'.2.2
  have hX := hx'.2.2.2.2
  (refine callsV_of Tryz.func53 rfl KR KR ?_; rw [Tryz.results53])
  (repeat' first
    | with_reducible first | exact ⟨⟩ | (refine Brg.mk ?_; intros) | refine Two.mk ?_ ?_
    | refine gs ?_
    | ((with_reducible refine at_f 102 ?_); refine ret_k (siteValid (B := B) FR (hS _ FR)) fun _ _ _ => ?_)
    | ((with_reducible refine at_f 103 ?_); refine ret_k (worldValidWish (B := B) FR (hW _ FR)) fun _ _ _ => ?_)
    | ((with_reducible refine at_f 104 ?_); refine ret_k (worldSorted (B := B) (l := x.replicas) FR FR) fun _ _ _ => ?_)
    | refine sxRef136 ?_)
  case refine_1.refine_1.refine_1.refine_2.refine_1 =>
    have hcal1 : callable Tryz.prog 105 = true := by kernel_rfl
    have hcal2 : callable Tryz.prog 107 = true := by kernel_rfl
    refine ret_k (containsNot_HostState (caps := []) (q := stateB) (B := B) (l := x.hosts) FR FR hcal1 fun h _ w' _ => worldValid1) fun w4 n4 s4 => ?_
    have h24 : x.replicas.length ≤ 24 := by omega
    (repeat' first
    | with_reducible first | exact ⟨⟩ | (refine Brg.mk ?_; intros) | refine Two.mk ?_ ?_
    | refine gs ?_
    | refine sx ?_)
    · refine ret_k (containsNot_Replica (caps := [_, _]) (enc := replicaV) (q := replB l.length s.hosts.length) (B := B) (l := x.replicas) FR FR hcal2 fun r _ w' hx9 => by
        have s9 := hx9.st
        exact worldValid2 (B := B) FR (hS _ FR) (hW _ FR) (by ((try simp only [siteC, List.map_cons, List.map_nil, natV, intV]); simp (singlePass := true) (maxDischargeDepth := 99) only [*, Nat.le_refl, not_false_eq_true, and_self, natV, intV, List.map_cons, List.map_nil, List.length_cons, List.length_nil, Nat.reduceAdd, Nat.reduceLeDiff])) FR) fun w5 n5 s5 => ?_
      (repeat' first
    | with_reducible first | exact ⟨⟩ | (refine Brg.mk ?_; intros) | refine Two.mk ?_ ?_
    | refine gs ?_
    | refine sx ?_)
      simp only [validB, *, List.length_map, decide_true, Bool.true_and, Bool.not_not]
    · simp only [validB, *, Bool.and_false, Bool.false_and]
  · have h24 : ¬ x.replicas.length ≤ 24 := by omega
    simp only [validB, decide_eq_false h24, Bool.and_false, Bool.false_and]
  all_goals (simp only [validB, *, decide_false, Bool.and_false, Bool.false_and])
theorem ref13Valid (hB : B ≤ w.heap.size) (hs : SiteR w B u s) (hl : WishR w B wv l) (hx0 : WorldR w B hv rv x) : Ret Tryz.prog 45 #[.agg (siteC u s).toArray, .agg #[wv], .agg #[hv, rv]] w (.bool (validB s (l.map (·.x)) x)) := by
  have hn : Now w := trivial
  have hx : Ext w w := Ext.refl w
  have hs' := hs.sk hB
  have hl' := hl.sk hB
  have hx' := hx0.sk hB
  have hS := hs'.2.2.2.2.2.2
  have hW := hl'.2.2
  have hX := hx'.2.2.2.2
  (refine callsV_of Tryz.func45 rfl KR KR ?_; rw [Tryz.results45])
  (repeat' first
    | with_reducible first | exact ⟨⟩ | (refine Brg.mk ?_; intros) | refine Two.mk ?_ ?_
    | refine gs ?_
    | ((with_reducible refine at_f 83 ?_); refine ret_k (ref12Valid (B := B) FR (hS _ FR)) fun _ _ _ => ?_)
    | ((with_reducible refine at_f 84 ?_); refine ret_k (ref13ValidWish (B := B) FR (hW _ FR)) fun _ _ _ => ?_)
    | ((with_reducible refine at_f 85 ?_); refine ret_k (ref13Ascending (B := B) (l := x.replicas) FR FR) fun _ _ _ => ?_)
    | refine sxRef136 ?_)
  case refine_1.refine_1.refine_1.refine_2.refine_1 =>
    have h24 : x.replicas.length ≤ 24 := by omega
    rename_i e0 _ _ _ _ _
    have hle : Hid (x.hosts.length = s.hosts.length) := e0
    clear e0
    refine loop_k (x.hosts.length) (fun g0 k g _ => g 7 = .int .i64 k ∧ (g 3 = g0 3 ∧ g 4 = g0 4 ∧ g 5 = g0 5) ∧ (x.hosts.take k).all stateB = true) KR (hx0.h.max_) ?_ ?_ ?_
    · (repeat' first
    | with_reducible first | exact ⟨⟩ | (refine Brg.mk ?_; intros) | refine Two.mk ?_ ?_
    | refine gs ?_
    | refine sxRef133 ?_)
    · rintro k m g wk hk hlt _ _ _ hw ⟨hi, hf, hp⟩
      simp (maxDischargeDepth := 3) only [U, ↓reduceIte, Nat.reduceEqDiff, *] at hf
      (repeat' first
    | with_reducible first | exact ⟨⟩ | (refine Brg.mk ?_; intros) | refine Two.mk ?_ ?_
    | refine gs ?_
    | refine sxRef134 ?_)
      all_goals first
        | (have hq : stateB x.hosts[k] = false := by
            rw [Bool.eq_false_iff]
            intro h9
            simp only [stateB, btw, Bool.and_eq_true, decide_eq_true_eq] at h9
            omega
           simp only [validB, all_at hlt hq, Bool.and_false, Bool.false_and]; done)
        | (have hq : stateB x.hosts[k] = true := by
            simp only [stateB, btw, Bool.and_eq_true, decide_eq_true_eq]
            omega
           refine next_k hk hlt ?_ FR
           (repeat' first
    | with_reducible first | exact ⟨⟩ | (refine Brg.mk ?_; intros) | refine Two.mk ?_ ?_
    | refine gs ?_
    | simp (maxDischargeDepth := 3) only [↓X, ↓Y, ↓Q, S1, ↓reduceIte, Nat.reduceEqDiff, Nat.reduceAdd, Int.reduceLT, Int.reduceLE, Int.reduceNeg, Int.reduceBEq, Int.reduceBNe, Int.reduceEq, Nat.reduceLeDiff, Nat.reduceMul, Nat.reduceLT, *, all_take hlt, hp, hq]
    | simp (singlePass := true) (maxDischargeDepth := 99) only [*, S2, Nat.reduceLT, all_take hlt, hp, hq]))
    · rintro g wk _ _ _ ⟨hi, hf, hp⟩
      simp (maxDischargeDepth := 3) only [U, ↓reduceIte, Nat.reduceEqDiff, *] at hf
      rw [take_all] at hp
      (repeat' first
    | with_reducible first | exact ⟨⟩ | (refine Brg.mk ?_; intros) | refine Two.mk ?_ ?_
    | refine gs ?_
    | refine sx ?_)
      refine loop_k (x.replicas.length) (fun g0 k g _ => g 8 = .int .i64 k ∧ (g 3 = g0 3 ∧ g 4 = g0 4 ∧ g 5 = g0 5) ∧ (x.replicas.take k).all (replB l.length s.hosts.length) = true) KR (hx0.r.max_) ?_ ?_ ?_
      · (repeat' first
    | with_reducible first | exact ⟨⟩ | (refine Brg.mk ?_; intros) | refine Two.mk ?_ ?_
    | refine gs ?_
    | refine sxRef133 ?_)
      · rintro k m g wk hk hlt _ _ _ hw ⟨hi, hf, hp'⟩
        simp (maxDischargeDepth := 3) only [U, ↓reduceIte, Nat.reduceEqDiff, *] at hf
        (repeat' first
    | with_reducible first | exact ⟨⟩ | (refine Brg.mk ?_; intros) | refine Two.mk ?_ ?_
    | refine gs ?_
    | refine sxRef135 ?_)
        all_goals first
          | (have hq : replB l.length s.hosts.length x.replicas[k] = false := by
              rw [Bool.eq_false_iff]
              intro h9
              simp only [replB, idx, Bool.and_eq_true, decide_eq_true_eq] at h9
              omega
             simp only [validB, List.length_map, all_at hlt hq, Bool.and_false]; done)
          | (have hq : replB l.length s.hosts.length x.replicas[k] = true := by
              simp only [replB, idx, Bool.and_eq_true, decide_eq_true_eq]
              omega
             refine next_k hk hlt ?_ FR
             (repeat' first
    | with_reducible first | exact ⟨⟩ | (refine Brg.mk ?_; intros) | refine Two.mk ?_ ?_
    | refine gs ?_
    | simp (maxDischargeDepth := 3) only [↓X, ↓Y, ↓Q, S1, ↓reduceIte, Nat.reduceEqDiff, Nat.reduceAdd, Int.reduceLT, Int.reduceLE, Int.reduceNeg, Int.reduceBEq, Int.reduceBNe, Int.reduceEq, Nat.reduceLeDiff, Nat.reduceMul, Nat.reduceLT, *, all_take hlt, hp', hq]
    | simp (singlePass := true) (maxDischargeDepth := 99) only [*, S2, Nat.reduceLT, all_take hlt, hp', hq]))
      · rintro g wk _ _ _ ⟨hi, hf, hp'⟩
        simp (maxDischargeDepth := 3) only [U, ↓reduceIte, Nat.reduceEqDiff, *] at hf
        rw [take_all] at hp'
        (repeat' first
    | with_reducible first | exact ⟨⟩ | (refine Brg.mk ?_; intros) | refine Two.mk ?_ ?_
    | refine gs ?_
    | refine sx ?_)
        have e1 := decide_eq_true hle.out
        simp only [validB, *, List.length_map, decide_true, Bool.true_and]
  · have h24 : ¬ x.replicas.length ≤ 24 := by omega
    simp only [validB, decide_eq_false h24, Bool.and_false, Bool.false_and]
  all_goals (simp only [validB, *, decide_false, Bool.and_false, Bool.false_and])
end
end Go.Proofs.YtphciegaokdolaaGreatDoor
/- The document's answer, layer 13, and the layer world: Where, Runs, Used. -/
namespace Go.Proofs.YtphciegaokdolaaGreatDoor
set_option linter.unusedSimpArgs false
set_option linter.unusedVariables false
open Go Go.RowKit
set_option maxRecDepth 100000
set_option linter.unusedSectionVars false
set_option maxHeartbeats 1000000
theorem filter_take {α : Type} {l : List α} {k : Nat} (h : k < l.length) (p : α → Bool) : (l.take (k + 1)).filter p = (l.take k).filter p ++ if p l[k] = true then [l[k]] else [] := by
  rw [List.take_succ_eq_append_getElem h, List.filter_append]
  congr 1
  rw [List.filter_cons]
  split <;> simp_all
section
variable {w : World} {B : Nat} {u : SiteVs} {s : SiteD} {wv hv rv : Value} {l : List SrvV} {x : WorldD}
end
end Go.Proofs.YtphciegaokdolaaGreatDoor
/- The document's answer, layer 13, and the layer world: Where (the document's), Runs, Used. -/
namespace Go.Proofs.YtphciegaokdolaaGreatDoor
set_option linter.unusedSimpArgs false
set_option linter.unusedVariables false
open Go Go.RowKit
set_option maxRecDepth 100000
set_option linter.unusedSectionVars false
set_option maxHeartbeats 1000000
section
variable {w : World} {B : Nat} {u : SiteVs} {s : SiteD} {wv hv rv : Value} {l : List SrvV} {x : WorldD}
end
end Go.Proofs.YtphciegaokdolaaGreatDoor
