/- The plain laws of layer 13: starting and stopping on sorted lists. -/
import Derived.Test.YtblegjdogmcgbaaGreatStart13b
namespace Go.Proofs.YtblegjdogmcgbaaGreat
set_option linter.unusedSimpArgs false
set_option linter.unusedVariables false
open Go Go.RowKit
set_option linter.unusedSectionVars false
theorem ord_tri (a b : ReplicaD) : ordI a b < 0 ∨ a = b ∨ ordI b a < 0 := by
  by_cases h : a = b
  · exact .inr (.inl h)
  · have h2 : a.service ≠ b.service ∨ a.host ≠ b.host := by
      rcases Classical.em (a.service = b.service) with h1 | h1
      · rcases Classical.em (a.host = b.host) with h3 | h3
        · exact absurd (by cases a; cases b; simp_all) h
        · exact .inr h3
      · exact .inl h1
    simp only [ordI, cmpI]
    (repeat' split) <;> omega
/-- Strictly ascending. -/
abbrev Asc (l : List ReplicaD) : Prop := l.Pairwise fun a b => ordI a b < 0
theorem asc_iff {l : List ReplicaD} : sortedB l = true ↔ Asc l := by
  induction l with
  | nil => simp [sortedB]
  | cons a l ih =>
    cases l with
    | nil => simp [sortedB]
    | cons b r =>
      rw [sortedB, Bool.and_eq_true, ih, decide_eq_true_eq]
      constructor
      · rintro ⟨h1, h2⟩
        refine List.pairwise_cons.2 ⟨fun c hc => ?_, h2⟩
        rcases List.mem_cons.1 hc with rfl | hc
        · exact h1
        · exact ord_trans h1 ((List.pairwise_cons.1 h2).1 c hc)
      · intro h
        exact ⟨(List.pairwise_cons.1 h).1 b (List.mem_cons_self ..), (List.pairwise_cons.1 h).2⟩
theorem mem_startL {r a : ReplicaD} {l : List ReplicaD} : a ∈ startL r l ↔ a = r ∨ a ∈ l := by
  rw [startL]
  simp only [List.mem_append, List.mem_cons]
  constructor
  · rintro (h | h | h)
    · exact .inr ((List.takeWhile_sublist _).subset h)
    · exact .inl h
    · exact .inr ((List.dropWhile_sublist _).subset h)
  · rintro (h | h)
    · exact .inr (.inl h)
    · rw [← List.takeWhile_append_dropWhile (p := ltB r) (l := l)] at h
      rcases List.mem_append.1 h with h | h
      · exact .inl h
      · exact .inr (.inr h)
theorem mem_stopF {r a : ReplicaD} {l : List ReplicaD} : a ∈ stopF r l ↔ a ∈ l ∧ a ≠ r := by
  simp [stopF]
theorem len_startL {r : ReplicaD} {l : List ReplicaD} : (startL r l).length = l.length + 1 := by
  have := congrArg List.length (List.takeWhile_append_dropWhile (p := ltB r) (l := l))
  rw [List.length_append] at this
  rw [startL, List.length_append, List.length_cons]
  omega
theorem hasB_iff {l : List ReplicaD} {r : ReplicaD} : hasB l r = true ↔ r ∈ l := by
  simp [hasB]
theorem asc_startL {r : ReplicaD} {l : List ReplicaD} (h : Asc l) (hr : r ∉ l) : Asc (startL r l) := by
  rw [startL_pos]
  have hs := asc_iff.2 h
  have hlt : ∀ a ∈ l.take (posI r l), ordI a r < 0 := by
    intro a ha
    obtain ⟨i, hi, rfl⟩ := List.getElem_of_mem ha
    rw [List.length_take] at hi
    rw [List.getElem_take]
    exact pos_below i (by omega) (by omega)
  have hgt : ∀ a ∈ l.drop (posI r l), ordI r a < 0 := by
    intro a ha
    have hal := List.mem_of_mem_drop ha
    obtain ⟨i, hi, rfl⟩ := List.getElem_of_mem ha
    rw [List.length_drop] at hi
    rw [List.getElem_drop] at hal ⊢
    have h1 := pos_above (r := r) hs (posI r l + i) (by omega) (by omega)
    rcases ord_tri l[posI r l + i] r with h2 | h2 | h2
    · exact absurd h2 h1
    · rw [h2] at hal; exact absurd hal hr
    · exact h2
  refine List.pairwise_append.2 ⟨h.sublist (List.take_sublist _ _), List.pairwise_cons.2 ⟨hgt, h.sublist (List.drop_sublist _ _)⟩, fun a ha b hb => ?_⟩
  rcases List.mem_cons.1 hb with rfl | hb
  · exact hlt a ha
  · exact ord_trans (hlt a ha) (hgt b hb)
theorem asc_stopF {r : ReplicaD} {l : List ReplicaD} (h : Asc l) : Asc (stopF r l) := h.sublist List.filter_sublist
theorem startE_iff {x : WorldD} {r : ReplicaD} : startE x r = 0 ↔ Asc x.replicas ∧ 0 ≤ r.service ∧ 0 ≤ r.host ∧ r ∉ x.replicas ∧ x.replicas.length < 24 := by
  rw [← asc_iff, ← hasB_iff]
  unfold startE
  constructor
  · intro h
    split at h
    · rename_i h1
      split at h
      · cases h
      · rename_i h2
        split at h
        · cases h
        · rename_i h3
          exact ⟨h1.1, h1.2.1, h1.2.2, h2, by omega⟩
    · cases h
  · rintro ⟨h1, h2, h3, h4, h5⟩
    rw [if_pos ⟨h1, h2, h3⟩, if_neg h4, if_neg (by omega)]
theorem stopE_iff {x : WorldD} {r : ReplicaD} : stopE x r = 0 ↔ Asc x.replicas ∧ r ∈ x.replicas := by
  rw [← asc_iff, ← hasB_iff]
  unfold stopE
  constructor
  · intro h
    split at h
    · rename_i h1
      split at h
      · rename_i h2; exact ⟨h1, h2⟩
      · cases h
    · cases h
  · rintro ⟨h1, h2⟩
    rw [if_pos h1, if_pos h2]
theorem startW_eq {x : WorldD} {r : ReplicaD} (h : startE x r = 0) : startW x r = ⟨x.hosts, startL r x.replicas⟩ := by simp [startW, h]
theorem stopW_eq {x : WorldD} {r : ReplicaD} (h : stopE x r = 0) : stopW x r = ⟨x.hosts, stopF r x.replicas⟩ := by simp [stopW, h]
end Go.Proofs.YtblegjdogmcgbaaGreat
/- The plain laws of layer 19: when a step is ready, what it does, what takes it back. -/
namespace Go.Proofs.YtblegjdogmcgbaaGreat
set_option linter.unusedSimpArgs false
set_option linter.unusedVariables false
open Go Go.RowKit
set_option linter.unusedSectionVars false
set_option maxHeartbeats 1000000
def kindOk (k : Int) : Bool := decide (1 ≤ k) && decide (k ≤ 7)
def stepB2 (s : SiteD) (wl : List ServiceD) (st : StepD) : Bool := kindOk st.kind && stepOkB s wl (st.kind == 1 || st.kind == 2) (st.kind == 7) st
def replOf (st : StepD) : ReplicaD := ⟨st.service, st.host⟩
def hostAt (x : WorldD) (i : Int) : StateD := (x.hosts[i.toNat]?).getD ⟨0, 0⟩
def runsB (x : WorldD) (h : Int) : Bool := x.replicas.any fun r => r.host == h
/-- What the rule of its kind asks of the world. -/
def readyK (x : WorldD) (st : StepD) : Bool :=
  if st.kind = 1 then (hostAt x st.host).phase == 0 && !hasB x.replicas (replOf st) && decide (x.replicas.length < 24)
  else if st.kind = 2 then hasB x.replicas (replOf st)
  else if st.kind = 3 then (hostAt x st.host).phase == 0
  else if st.kind = 4 then (hostAt x st.host).phase == 1 && !runsB x st.host
  else if st.kind = 5 then (hostAt x st.host).phase == 2 && !runsB x st.host
  else if st.kind = 6 then (hostAt x st.host).phase == 1 || (hostAt x st.host).phase == 2 || (hostAt x st.host).phase == 3
  else (hostAt x st.host).phase == 2
def readyB (s : SiteD) (wl : List ServiceD) (x : WorldD) (st : StepD) : Bool := stepB2 s wl st && validB s wl x && readyK x st
def newState (h : StateD) (st : StepD) : StateD :=
  if st.kind = 3 then ⟨1, h.firmware⟩ else if st.kind = 4 then ⟨2, h.firmware⟩ else if st.kind = 5 then ⟨3, h.firmware⟩ else if st.kind = 6 then ⟨0, h.firmware⟩ else if st.kind = 7 then ⟨h.phase, st.version⟩ else h
def applyE (s : SiteD) (wl : List ServiceD) (x : WorldD) (st : StepD) : Int :=
  if (stepB2 s wl st && validB s wl x) = true then
    if readyK x st = true then (if st.kind = 1 then startE x (replOf st) else if st.kind = 2 then stopE x (replOf st) else setE x st.host) else 8
  else 1
def applyW (s : SiteD) (wl : List ServiceD) (x : WorldD) (st : StepD) : WorldD :=
  if readyB s wl x st = true then (if st.kind = 1 then startW x (replOf st) else if st.kind = 2 then stopW x (replOf st) else setW x st.host (newState (hostAt x st.host) st)) else noW
section
variable {s : SiteD} {wl : List ServiceD} {x : WorldD} {st : StepD}
/-- What is known of a step that is ready. -/
structure RdyOk (s : SiteD) (wl : List ServiceD) (x : WorldD) (st : StepD) : Prop where
  kind : 1 ≤ st.kind ∧ st.kind ≤ 7
  ok : stepB2 s wl st = true
  val : validB s wl x = true
  rdy : readyK x st = true
  host : 0 ≤ st.host ∧ st.host < x.hosts.length
  svc : 0 ≤ st.service
  asc : Asc x.replicas
  len : x.replicas.length ≤ 24
theorem valid_parts (h : validB s wl x = true) : siteB s = true ∧ wishB wl = true ∧ x.hosts.length = s.hosts.length ∧ x.replicas.length ≤ 24 ∧ sortedB x.replicas = true ∧ x.hosts.all stateB = true ∧ x.replicas.all (replB wl.length s.hosts.length) = true := by
  simp only [validB, Bool.and_eq_true, decide_eq_true_eq] at h
  exact ⟨h.1.1.1.1.1.1, h.1.1.1.1.1.2, h.1.1.1.1.2, h.1.1.1.2, h.1.1.2, h.1.2, h.2⟩
theorem step_parts (h : stepB2 s wl st = true) : (1 ≤ st.kind ∧ st.kind ≤ 7) ∧ siteB s = true ∧ wishB wl = true ∧ 0 ≤ st.host ∧ st.host < s.hosts.length ∧ 0 ≤ st.service ∧ (st.kind = 1 ∨ st.kind = 2 → st.service < wl.length) ∧ (¬ (st.kind = 1 ∨ st.kind = 2) → st.service = 0) ∧ 0 ≤ st.version ∧ (st.kind = 7 → st.version ≤ 1000000) ∧ (¬ st.kind = 7 → st.version = 0) := by
  simp only [stepB2, kindOk, stepOkB, Bool.and_eq_true, decide_eq_true_eq, Bool.or_eq_true, beq_iff_eq] at h
  obtain ⟨h0, ⟨⟨⟨⟨⟨⟨h1, h2⟩, h3⟩, h4⟩, h5⟩, h6⟩, h7⟩, h8⟩ := h
  refine ⟨h0, h1, h2, h3, h4, h5, fun h => ?_, fun h => ?_, h7, fun h => ?_, fun h => ?_⟩
  · rwa [if_pos h] at h6
  · rw [if_neg h] at h6; omega
  · rwa [if_pos h] at h8
  · rw [if_neg h] at h8; omega
theorem rdy_ok (h : readyB s wl x st = true) : RdyOk s wl x st := by
  simp only [readyB, Bool.and_eq_true] at h
  obtain ⟨⟨h1, h2⟩, h3⟩ := h
  have a := step_parts h1
  have b := valid_parts h2
  exact ⟨a.1, h1, h2, h3, ⟨a.2.2.2.1, by have := a.2.2.2.2.1; omega⟩, a.2.2.2.2.2.1, asc_iff.1 b.2.2.2.2.1, b.2.2.2.1⟩
theorem set_ok (h : RdyOk s wl x st) : setOk x st.host = true := by
  have := h.host
  simp [setOk, idx, asc_iff.2 h.asc, this]
/-- What is ready succeeds. -/
theorem apply_zero (h : readyB s wl x st = true) : applyE s wl x st = 0 := by
  have o := rdy_ok h
  have hr := o.rdy
  unfold applyE
  rw [if_pos (by simp [o.ok, o.val]), if_pos hr]
  split
  · rename_i hk
    simp only [readyK, if_pos hk, Bool.and_eq_true, beq_iff_eq, Bool.not_eq_true', decide_eq_true_eq] at hr
    exact startE_iff.2 ⟨o.asc, o.svc, o.host.1, by rw [← hasB_iff]; simp only [Bool.not_eq_true]; exact hr.1.2, hr.2⟩
  · split
    · rename_i h1 hk
      simp only [readyK, if_neg h1, if_pos hk] at hr
      exact stopE_iff.2 ⟨o.asc, hasB_iff.1 hr⟩
    · simp [setE, set_ok o]
end
section
variable {s : SiteD} {wl : List ServiceD} {x : WorldD} {st : StepD} {i p q k : Int} {l : List ReplicaD}
/-- The world whose host i has a phase, and whose replicas are l. -/
def PW (x : WorldD) (i p : Int) (l : List ReplicaD) : WorldD := ⟨x.hosts.set i.toNat ⟨p, (hostAt x i).firmware⟩, l⟩
theorem hostAt_lt (h : 0 ≤ i ∧ i < x.hosts.length) : ∃ hk : i.toNat < x.hosts.length, hostAt x i = x.hosts[i.toNat] := by
  have hk : i.toNat < x.hosts.length := by omega
  exact ⟨hk, by simp [hostAt, hk]⟩
theorem hostAt_P (h : 0 ≤ i ∧ i < x.hosts.length) : hostAt (PW x i p l) i = ⟨p, (hostAt x i).firmware⟩ := by
  have hk : i.toNat < x.hosts.length := by omega
  have : (PW x i p l).hosts[i.toNat]? = some ⟨p, (hostAt x i).firmware⟩ := by
    simp only [PW]
    rw [List.getElem?_set_self hk]
  simp only [hostAt] at this ⊢
  rw [this]
  rfl
theorem P_self (h : 0 ≤ i ∧ i < x.hosts.length) : PW x i (hostAt x i).phase x.replicas = x := by
  obtain ⟨hk, e⟩ := hostAt_lt h
  have : x.hosts.set i.toNat ⟨(hostAt x i).phase, (hostAt x i).firmware⟩ = x.hosts := by
    rw [e]
    exact List.set_getElem_self hk
  simp only [PW, this]
/-- A list of replicas that a valid world may have. -/
structure RepOk (s : SiteD) (wl : List ServiceD) (l : List ReplicaD) : Prop where
  len : l.length ≤ 24
  asc : Asc l
  all : l.all (replB wl.length s.hosts.length) = true
theorem rep_ok (h : validB s wl x = true) : RepOk s wl x.replicas := by
  have b := valid_parts h
  exact ⟨b.2.2.2.1, asc_iff.1 b.2.2.2.2.1, b.2.2.2.2.2.2⟩
theorem all_set {f : StateD → Bool} {hs : List StateD} {n : Nat} {h : StateD} (ha : hs.all f = true) (hh : f h = true) : (hs.set n h).all f = true := by
  rw [List.all_eq_true] at ha ⊢
  intro y hy
  rcases List.mem_or_eq_of_mem_set hy with hy | rfl
  · exact ha y hy
  · exact hh
theorem valid_set {n : Nat} {h : StateD} (hv : validB s wl x = true) (hh : stateB h = true) (hl : RepOk s wl l) : validB s wl ⟨x.hosts.set n h, l⟩ = true := by
  have b := valid_parts hv
  simp only [validB, b.1, b.2.1, List.length_set, b.2.2.1, hl.len, asc_iff.2 hl.asc, hl.all, all_set b.2.2.2.2.2.1 hh, decide_true, Bool.and_self]
theorem state_ok (hv : validB s wl x = true) (h : 0 ≤ i ∧ i < x.hosts.length) : stateB (hostAt x i) = true := by
  obtain ⟨hk, e⟩ := hostAt_lt h
  rw [e]
  exact List.all_eq_true.1 (valid_parts hv).2.2.2.2.2.1 _ (List.getElem_mem hk)
theorem valid_P (hv : validB s wl x = true) (h : 0 ≤ i ∧ i < x.hosts.length) (hp : p ≤ 4) (hl : RepOk s wl l) : validB s wl (PW x i p l) = true := by
  have hs := state_ok hv h
  simp only [stateB, Bool.and_eq_true, decide_eq_true_eq] at hs
  exact valid_set hv (by simp [stateB, hp, hs.2]) hl
theorem valid_same (hv : validB s wl x = true) (hl : RepOk s wl l) : validB s wl ⟨x.hosts, l⟩ = true := by
  have b := valid_parts hv
  simp only [validB, b.1, b.2.1, b.2.2.1, hl.len, asc_iff.2 hl.asc, hl.all, b.2.2.2.2.2.1, decide_true, Bool.and_self]
theorem rep_start {r : ReplicaD} (hl : RepOk s wl l) (hr : replB wl.length s.hosts.length r = true) (hn : r ∉ l) (h24 : l.length < 24) : RepOk s wl (startL r l) := by
  refine ⟨by rw [len_startL]; omega, asc_startL hl.asc hn, ?_⟩
  rw [List.all_eq_true]
  intro a ha
  rcases mem_startL.1 ha with rfl | ha
  · exact hr
  · exact List.all_eq_true.1 hl.all a ha
theorem rep_stop {r : ReplicaD} (hl : RepOk s wl l) : RepOk s wl (stopF r l) := by
  refine ⟨Nat.le_trans (stop_len _ _) hl.len, asc_stopF hl.asc, ?_⟩
  rw [List.all_eq_true]
  intro a ha
  exact List.all_eq_true.1 hl.all a (mem_stopF.1 ha).1
/-- One step of phases. -/
def Moves (l : List ReplicaD) (i k p q : Int) : Prop := (k = 3 ∧ p = 0 ∧ q = 1) ∨ (k = 4 ∧ p = 1 ∧ q = 2 ∧ (l.any fun r => r.host == i) = false) ∨ (k = 5 ∧ p = 2 ∧ q = 3 ∧ (l.any fun r => r.host == i) = false) ∨ (k = 6 ∧ (p = 1 ∨ p = 2 ∨ p = 3) ∧ q = 0)
theorem step_plain (hv : validB s wl x = true) (h : 0 ≤ i ∧ i < x.hosts.length) (hk : 3 ≤ k ∧ k ≤ 6) : stepB2 s wl ⟨k, i, 0, 0⟩ = true := by
  have b := valid_parts hv
  have h1 : ¬ (k = 1) := by omega
  have h2 : ¬ (k = 2) := by omega
  have h7 : ¬ (k = 7) := by omega
  have e1 : (k == 1 || k == 2) = false := by simp [h1, h2]
  have e7 : (k == 7) = false := by simp [h7]
  simp only [stepB2, kindOk, stepOkB, e1, e7, b.1, b.2.1, Bool.and_eq_true, decide_eq_true_eq, Bool.true_and, Bool.false_eq_true, if_false]
  omega
theorem move (hv : validB s wl x = true) (h : 0 ≤ i ∧ i < x.hosts.length) (hl : RepOk s wl l) (hp : p ≤ 4) (hm : Moves l i k p q) : readyB s wl (PW x i p l) ⟨k, i, 0, 0⟩ = true ∧ applyW s wl (PW x i p l) ⟨k, i, 0, 0⟩ = PW x i q l := by
  have hvp := valid_P (l := l) hv h hp hl
  have hlen : (PW x i p l).hosts.length = x.hosts.length := by simp [PW]
  have hr : readyB s wl (PW x i p l) ⟨k, i, 0, 0⟩ = true := by
    have hk : 3 ≤ k ∧ k ≤ 6 := by rcases hm with h | h | h | h <;> omega
    have h1 := step_plain (x := PW x i p l) (k := k) hvp (by rw [hlen]; exact h) hk
    have h2 : readyK (PW x i p l) ⟨k, i, 0, 0⟩ = true := by
      simp only [readyK, hostAt_P h, runsB]
      rcases hm with ⟨rfl, rfl, rfl⟩ | ⟨rfl, rfl, rfl, hn⟩ | ⟨rfl, rfl, rfl, hn⟩ | ⟨rfl, hpp, rfl⟩
      · simp
      · simp [PW, hn] at *
        try exact hn
      · simp [PW] at *
        try exact hn
      · rcases hpp with rfl | rfl | rfl <;> simp
    simp only [readyB, h1, hvp, h2, Bool.and_self]
  refine ⟨hr, ?_⟩
  have hset : ∀ y : StateD, setW (PW x i p l) i y = ⟨x.hosts.set i.toNat y, l⟩ := by
    intro y
    have : setOk (PW x i p l) i = true := by
      simp only [setOk, hlen, idx, Bool.and_eq_true, decide_eq_true_eq]
      exact ⟨asc_iff.2 hl.asc, by omega⟩
    rw [setW, if_pos this]
    simp only [PW, List.set_set]
  unfold applyW
  rw [if_pos hr]
  simp only [hostAt_P h, newState]
  rcases hm with ⟨rfl, rfl, rfl⟩ | ⟨rfl, rfl, rfl, hn⟩ | ⟨rfl, rfl, rfl, hn⟩ | ⟨rfl, hpp, rfl⟩ <;> simp only [hset] <;> simp [PW, hset]
end
section
variable {s : SiteD} {wl : List ServiceD} {x : WorldD} {st : StepD} {i p q k : Int} {l : List ReplicaD}
theorem phase_le (hv : validB s wl x = true) (h : 0 ≤ i ∧ i < x.hosts.length) : (hostAt x i).phase ≤ 4 := by
  have hs := state_ok hv h
  simp only [stateB, Bool.and_eq_true, decide_eq_true_eq] at hs
  exact hs.1
theorem st_plain (ok : stepB2 s wl st = true) (hk : 3 ≤ st.kind ∧ st.kind ≤ 6) : st = ⟨st.kind, st.host, 0, 0⟩ := by
  have a := step_parts ok
  have h1 := a.2.2.2.2.2.2.2.1 (by omega)
  have h2 := a.2.2.2.2.2.2.2.2.2.2 (by omega)
  cases st
  simp only at h1 h2
  subst h1
  subst h2
  rfl
/-- A step of a host's phase. -/
theorem apply_move (h : readyB s wl x st = true) (hk : 3 ≤ st.kind ∧ st.kind ≤ 6) : ∃ q, Moves x.replicas st.host st.kind (hostAt x st.host).phase q ∧ applyW s wl x st = PW x st.host q x.replicas := by
  have o := rdy_ok h
  have hr := o.rdy
  have e := st_plain o.ok hk
  have hm : ∃ q, Moves x.replicas st.host st.kind (hostAt x st.host).phase q := by
    unfold readyK at hr
    have h1 : ¬ st.kind = 1 := by omega
    have h2 : ¬ st.kind = 2 := by omega
    rw [if_neg h1, if_neg h2] at hr
    split at hr
    · rename_i h3; exact ⟨1, .inl ⟨h3, by simpa using hr, rfl⟩⟩
    · split at hr
      · rename_i h4
        simp only [Bool.and_eq_true, beq_iff_eq, Bool.not_eq_true', runsB] at hr
        exact ⟨2, .inr (.inl ⟨h4, hr.1, rfl, hr.2⟩)⟩
      · split at hr
        · rename_i h5
          simp only [Bool.and_eq_true, beq_iff_eq, Bool.not_eq_true', runsB] at hr
          exact ⟨3, .inr (.inr (.inl ⟨h5, hr.1, rfl, hr.2⟩))⟩
        · rename_i h3 h4 h5
          have h6 : st.kind = 6 := by omega
          rw [if_pos h6] at hr
          simp only [Bool.or_eq_true, beq_iff_eq] at hr
          exact ⟨0, .inr (.inr (.inr ⟨h6, by omega, rfl⟩))⟩
  obtain ⟨q, hm⟩ := hm
  have h2 := (move o.val o.host (rep_ok o.val) (phase_le o.val o.host) hm).2
  rw [P_self o.host, ← e] at h2
  exact ⟨q, hm, h2⟩
theorem repl_ok (ok : stepB2 s wl st = true) (hk : st.kind = 1 ∨ st.kind = 2) : replB wl.length s.hosts.length (replOf st) = true := by
  have a := step_parts ok
  have h1 := a.2.2.2.2.2.2.1 hk
  simp [replB, replOf, idx, a.2.2.2.2.2.1, h1, a.2.2.2.1, a.2.2.2.2.1]
theorem start_parts (h : readyB s wl x st = true) (hk : st.kind = 1) : (hostAt x st.host).phase = 0 ∧ replOf st ∉ x.replicas ∧ x.replicas.length < 24 ∧ startE x (replOf st) = 0 ∧ applyW s wl x st = ⟨x.hosts, startL (replOf st) x.replicas⟩ := by
  have o := rdy_ok h
  have hr := o.rdy
  simp only [readyK, if_pos hk, Bool.and_eq_true, beq_iff_eq, Bool.not_eq_true', decide_eq_true_eq] at hr
  have hn : replOf st ∉ x.replicas := by rw [← hasB_iff]; simp only [Bool.not_eq_true]; exact hr.1.2
  have he : startE x (replOf st) = 0 := startE_iff.2 ⟨o.asc, o.svc, o.host.1, hn, hr.2⟩
  exact ⟨hr.1.1, hn, hr.2, he, by rw [applyW, if_pos h, if_pos hk, startW_eq he]⟩
theorem stop_parts (h : readyB s wl x st = true) (hk : st.kind = 2) : replOf st ∈ x.replicas ∧ stopE x (replOf st) = 0 ∧ applyW s wl x st = ⟨x.hosts, stopF (replOf st) x.replicas⟩ := by
  have o := rdy_ok h
  have hr := o.rdy
  have h1 : ¬ st.kind = 1 := by omega
  simp only [readyK, if_neg h1, if_pos hk] at hr
  have hm := hasB_iff.1 hr
  have he : stopE x (replOf st) = 0 := stopE_iff.2 ⟨o.asc, hm⟩
  exact ⟨hm, he, by rw [applyW, if_pos h, if_neg h1, if_pos hk, stopW_eq he]⟩
theorem flash_eq (h : readyB s wl x st = true) (hk : st.kind = 7) : applyW s wl x st = ⟨x.hosts.set st.host.toNat ⟨(hostAt x st.host).phase, st.version⟩, x.replicas⟩ := by
  have o := rdy_ok h
  have hs := set_ok o
  rw [applyW, if_pos h, if_neg (by omega), if_neg (by omega), setW, if_pos hs]
  simp [newState, hk]
/-- A world after a step is valid. -/
theorem apply_valid (h : readyB s wl x st = true) : validB s wl (applyW s wl x st) = true := by
  have o := rdy_ok h
  have hl := rep_ok o.val
  by_cases h1 : st.kind = 1
  · obtain ⟨_, hn, h24, _, e⟩ := start_parts h h1
    rw [e]
    exact valid_same o.val (rep_start hl (repl_ok o.ok (.inl h1)) hn h24)
  · by_cases h2 : st.kind = 2
    · rw [(stop_parts h h2).2.2]
      exact valid_same o.val (rep_stop hl)
    · by_cases h7 : st.kind = 7
      · rw [flash_eq h h7]
        have a := step_parts o.ok
        refine valid_set o.val ?_ hl
        have hp := phase_le o.val o.host
        have hv := a.2.2.2.2.2.2.2.2.2.1 h7
        have hv0 := a.2.2.2.2.2.2.2.2.1
        simp [stateB, btw, hp, hv, hv0]
      · obtain ⟨q, hm, e⟩ := apply_move h (by have := o.kind; omega)
        rw [e]
        exact valid_P o.val o.host (by rcases hm with h | h | h | h <;> omega) hl
end
section
variable {s : SiteD} {wl : List ServiceD} {x : WorldD} {st : StepD} {i p q k : Int} {l : List ReplicaD}
end
section
variable {s : SiteD} {wl : List ServiceD} {x : WorldD} {st a b : StepD}
end
section
variable {s : SiteD} {wl : List ServiceD} {x : WorldD} {st : StepD}
end
end Go.Proofs.YtblegjdogmcgbaaGreat
/- The plain laws of layer 26: what an agent does with requests. -/
namespace Go.Proofs.YtblegjdogmcgbaaGreat
set_option linter.unusedSimpArgs false
set_option linter.unusedVariables false
open Go Go.RowKit
set_option linter.unusedSectionVars false
set_option maxHeartbeats 1000000
structure ReplyD where
  id : Int
  answer : Int
deriving DecidableEq
structure RequestD where
  id : Int
  lease : Int
  step : StepD
deriving DecidableEq
def replyC (x : ReplyD) : List Value := [intV x.id, .int .u8 x.answer]
def replyV (x : ReplyD) : Value := .agg (replyC x).toArray
def requestC (x : RequestD) : List Value := [intV x.id, intV x.lease, .int .u8 x.step.kind, intV x.step.host, intV x.step.service, intV x.step.version]
def requestV (x : RequestD) : Value := .agg (requestC x).toArray
/-- The answer to a request that is not known. -/
def ansI (s : SiteD) (wl : List ServiceD) (x : WorldD) (r : RequestD) (now : Int) : Int :=
  if (hostAt x r.step.host).phase = 4 then 4 else if r.lease < now then 2 else if readyB s wl x r.step = true then 1 else 3
def knownO (l : List ReplyD) (id : Int) : Option ReplyD := l.find? fun p => p.id == id
structure HandleD where
  w : WorldD
  a : List ReplyD
  p : ReplyD
  e : Int
def handOk (s : SiteD) (wl : List ServiceD) (x : WorldD) (r : RequestD) (now : Int) : Bool := validB s wl x && stepB2 s wl r.step && decide (1 ≤ r.id) && decide (0 ≤ r.lease) && decide (0 ≤ now)
def newW (s : SiteD) (wl : List ServiceD) (x : WorldD) (r : RequestD) (now : Int) : WorldD := if ansI s wl x r now = 1 then applyW s wl x r.step else x
def handleD (s : SiteD) (wl : List ServiceD) (x : WorldD) (l : List ReplyD) (r : RequestD) (now : Int) : HandleD :=
  if handOk s wl x r now = true then
    match knownO l r.id with
    | some p => ⟨x, l, p, 0⟩
    | none => if 400 ≤ l.length then ⟨noW, [], ⟨0, 0⟩, 9⟩ else ⟨newW s wl x r now, l ++ [⟨r.id, ansI s wl x r now⟩], ⟨r.id, ansI s wl x r now⟩, 0⟩
  else ⟨noW, [], ⟨0, 0⟩, 1⟩
def failOk (s : SiteD) (wl : List ServiceD) (x : WorldD) (host : Int) : Bool := validB s wl x && decide (0 ≤ host) && decide (host < x.hosts.length)
def failE (s : SiteD) (wl : List ServiceD) (x : WorldD) (host : Int) : Int := if failOk s wl x host = true then (if (hostAt x host).phase = 4 then 8 else 0) else 1
def failL (host : Int) (l : List ReplicaD) : List ReplicaD := l.filter fun r => !(r.host == host)
def failW (s : SiteD) (wl : List ServiceD) (x : WorldD) (host : Int) : WorldD := if failE s wl x host = 0 then ⟨x.hosts.set host.toNat ⟨4, (hostAt x host).firmware⟩, failL host x.replicas⟩ else noW
section
variable {s : SiteD} {wl : List ServiceD} {x : WorldD} {st : StepD} {r : RequestD} {l : List ReplyD} {now host : Int}
theorem ans_ready (h : ansI s wl x r now = 1) : readyB s wl x r.step = true := by
  unfold ansI at h
  split at h
  · cases h
  · split at h
    · cases h
    · split at h
      · assumption
      · cases h
theorem ans_pos : 1 ≤ ansI s wl x r now ∧ ansI s wl x r now ≤ 4 := by
  unfold ansI
  (repeat' split) <;> omega
theorem newW_valid (hv : validB s wl x = true) : validB s wl (newW s wl x r now) = true := by
  unfold newW
  split
  · rename_i h
    exact apply_valid (ans_ready h)
  · exact hv
theorem asc_filter {l : List ReplicaD} (p : ReplicaD → Bool) (h : Asc l) : Asc (l.filter p) := List.Pairwise.filter _ h
theorem failW_valid (h : failE s wl x host = 0) : validB s wl (failW s wl x host) = true := by
  have hok : failOk s wl x host = true := by
    unfold failE at h
    split at h
    · assumption
    · cases h
  simp only [failOk, Bool.and_eq_true, decide_eq_true_eq] at hok
  have hl := rep_ok hok.1.1
  rw [failW, if_pos h]
  refine valid_P (p := 4) (i := host) hok.1.1 ⟨hok.1.2, hok.2⟩ (by decide) ⟨Nat.le_trans (List.length_filter_le _ _) hl.len, asc_filter _ hl.asc, ?_⟩
  rw [List.all_eq_true]
  intro a ha
  exact List.all_eq_true.1 hl.all a (List.mem_filter.1 ha).1
end
end Go.Proofs.YtblegjdogmcgbaaGreat
