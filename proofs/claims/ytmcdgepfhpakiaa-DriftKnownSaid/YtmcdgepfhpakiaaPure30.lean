
/- The plain laws of layer 30: differences of worlds, and what they do. -/
import Derived.Test.YtmcdgepfhpakiaaPure13
namespace Go.Proofs.Ytmcdgepfhpakiaa
set_option linter.unusedSimpArgs false
set_option linter.unusedVariables false
open Go Go.RowKit
set_option linter.unusedSectionVars false
set_option maxHeartbeats 1000000
structure DriftD where
  kind : Int
  host : Int
  service : Int
  was : Int
  is : Int
deriving DecidableEq
def driftC (x : DriftD) : List Value := [.int .u8 x.kind, intV x.host, intV x.service, intV x.was, intV x.is]
def driftV (x : DriftD) : Value := .agg (driftC x).toArray
/-- A difference that is one. -/
def realB (d : DriftD) : Bool := decide (d.kind = 1) || decide (d.kind = 2) || !decide (d.was = d.is)
def hostD (i : Nat) (x y : StateD) : List DriftD := [(⟨3, i, 0, x.phase, y.phase⟩ : DriftD), ⟨4, i, 0, x.firmware, y.firmware⟩].filter realB
def hostsD : Nat → List StateD → List StateD → List DriftD
  | i, x :: r, y :: s => hostD i x y ++ hostsD (i + 1) r s
  | _, _, _ => []
def mkD (k : Int) (p : ReplicaD) : DriftD := ⟨k, p.host, p.service, 0, 0⟩
def onlyL (here there : List ReplicaD) : List ReplicaD := here.filter fun p => !hasB there p
def diffL (a b : WorldD) : List DriftD := hostsD 0 a.hosts b.hosts ++ ((onlyL a.replicas b.replicas).map (mkD 1) ++ (onlyL b.replicas a.replicas).map (mkD 2))
def diffOk (a b : WorldD) : Bool := decide (a.hosts.length = b.hosts.length) && sortedB a.replicas && sortedB b.replicas
def diffE (a b : WorldD) : Int := if diffOk a b = true then 0 else 1
def stAt (x : WorldD) (h : Int) : StateD := x.hosts.getD h.toNat ⟨0, 0⟩
/-- What one difference does. -/
def hostE (x : WorldD) (h : Int) (ok : Bool) : Int := if h < 0 ∨ (x.hosts.length : Int) ≤ h then 1 else if ok = true then (if sortedB x.replicas = true then 0 else 1) else 8
def oneE (x : WorldD) (d : DriftD) : Int :=
  if d.kind = 3 then (if d.is < 0 ∨ 255 < d.is then 1 else hostE x d.host (decide ((stAt x d.host).phase = d.was)))
  else if d.kind = 4 then hostE x d.host (decide ((stAt x d.host).firmware = d.was))
  else if d.kind = 1 then stopE x ⟨d.service, d.host⟩
  else if d.kind = 2 then startE x ⟨d.service, d.host⟩ else 1
def oneW (x : WorldD) (d : DriftD) : WorldD :=
  if d.kind = 3 then ⟨x.hosts.set d.host.toNat ⟨d.is, (stAt x d.host).firmware⟩, x.replicas⟩
  else if d.kind = 4 then ⟨x.hosts.set d.host.toNat ⟨(stAt x d.host).phase, d.is⟩, x.replicas⟩
  else if d.kind = 1 then stopW x ⟨d.service, d.host⟩ else startW x ⟨d.service, d.host⟩
def patchG : WorldD → List DriftD → Int × WorldD
  | x, [] => (0, x)
  | x, d :: r => if oneE x d = 0 then patchG (oneW x d) r else (oneE x d, noW)
def patchR (x : WorldD) (l : List DriftD) : Int × WorldD := if sortedB x.replicas = true then patchG x l else (1, noW)
section
theorem patch_cons {x : WorldD} {d : DriftD} {r : List DriftD} (h : oneE x d = 0) : patchG x (d :: r) = patchG (oneW x d) r := by
  rw [patchG, if_pos h]
theorem getD_mid {pre r : List StateD} {x : StateD} : (pre ++ x :: r).getD pre.length ⟨0, 0⟩ = x := by
  simp [List.getD_eq_getElem?_getD]
theorem set_mid {pre r : List StateD} {x y : StateD} : (pre ++ x :: r).set pre.length y = pre ++ y :: r := by
  simp
theorem patch_hosts {R : List ReplicaD} (hR : sortedB R = true) : ∀ (xs ys pre : List StateD) (L : List DriftD), xs.length = ys.length → (∀ y ∈ ys, 0 ≤ y.phase ∧ y.phase ≤ 255) →
    patchG ⟨pre ++ xs, R⟩ (hostsD pre.length xs ys ++ L) = patchG ⟨pre ++ ys, R⟩ L
  | [], [], pre, L, _, _ => rfl
  | x :: xs, y :: ys, pre, L, hl, hy => by
    have hp := hy y (List.mem_cons_self ..)
    have ih := patch_hosts hR xs ys (pre ++ [y]) L (by simpa using hl) fun z hz => hy z (List.mem_cons_of_mem _ hz)
    simp only [List.append_assoc, List.singleton_append, List.length_append, List.length_singleton] at ih
    rw [← ih]
    simp only [hostsD, List.append_assoc]
    have hlen : ¬ (((pre.length : Nat) : Int) < 0 ∨ (((pre ++ x :: xs).length : Nat) : Int) ≤ (pre.length : Int)) := by simp; omega
    have step1 : ∀ K, patchG ⟨pre ++ x :: xs, R⟩ ((if x.phase = y.phase then [] else [(⟨3, pre.length, 0, x.phase, y.phase⟩ : DriftD)]) ++ K) = patchG ⟨pre ++ ⟨y.phase, x.firmware⟩ :: xs, R⟩ K := fun K => by
      by_cases h : x.phase = y.phase
      · rw [if_pos h, ← h]; rfl
      · rw [if_neg h]
        have h1 : oneE ⟨pre ++ x :: xs, R⟩ ⟨3, pre.length, 0, x.phase, y.phase⟩ = 0 := by
          simp only [oneE, hostE, if_true, stAt, Int.toNat_natCast, getD_mid, decide_true, hR]
          rw [if_neg (by omega), if_neg hlen]
        show patchG _ (_ :: K) = _
        rw [patch_cons h1]
        simp only [oneW, if_true, stAt, Int.toNat_natCast, getD_mid, set_mid]
    have hlen2 : ¬ (((pre.length : Nat) : Int) < 0 ∨ (((pre ++ (⟨y.phase, x.firmware⟩ : StateD) :: xs).length : Nat) : Int) ≤ (pre.length : Int)) := by simp; omega
    have step2 : ∀ K, patchG ⟨pre ++ ⟨y.phase, x.firmware⟩ :: xs, R⟩ ((if x.firmware = y.firmware then [] else [(⟨4, pre.length, 0, x.firmware, y.firmware⟩ : DriftD)]) ++ K) = patchG ⟨pre ++ y :: xs, R⟩ K := fun K => by
      by_cases h : x.firmware = y.firmware
      · rw [if_pos h, h]; rfl
      · rw [if_neg h]
        have h1 : oneE ⟨pre ++ ⟨y.phase, x.firmware⟩ :: xs, R⟩ ⟨4, pre.length, 0, x.firmware, y.firmware⟩ = 0 := by
          simp only [oneE, hostE, show ¬ ((4 : Int) = 3) by decide, if_false, if_true, stAt, Int.toNat_natCast, getD_mid, decide_true, hR]
          rw [if_neg hlen2]
        show patchG _ (_ :: K) = _
        rw [patch_cons h1]
        simp only [oneW, show ¬ ((4 : Int) = 3) by decide, if_false, if_true, stAt, Int.toNat_natCast, getD_mid, set_mid]
    have hD : hostD pre.length x y = (if x.phase = y.phase then [] else [(⟨3, pre.length, 0, x.phase, y.phase⟩ : DriftD)]) ++ (if x.firmware = y.firmware then [] else [(⟨4, pre.length, 0, x.firmware, y.firmware⟩ : DriftD)]) := by
      unfold hostD
      by_cases h1 : x.phase = y.phase <;> by_cases h2 : x.firmware = y.firmware <;> simp [List.filter_cons, realB, h1, h2]
    rw [hD, List.append_assoc, step1, step2]
  | [], y :: ys, _, _, h, _ => by simp at h
  | x :: xs, [], _, _, h, _ => by simp at h
theorem patch_gone {H : List StateD} : ∀ (L1 R : List ReplicaD), Asc R → L1.Nodup → (∀ p ∈ L1, p ∈ R) → ∃ R', Asc R' ∧ (∀ q, q ∈ R' ↔ q ∈ R ∧ q ∉ L1) ∧ ∀ L, patchG ⟨H, R⟩ (L1.map (mkD 1) ++ L) = patchG ⟨H, R'⟩ L
  | [], R, hA, _, _ => ⟨R, hA, fun q => by simp, fun L => rfl⟩
  | p :: L1, R, hA, hn, hm => by
    obtain ⟨hn1, hn2⟩ := List.nodup_cons.1 hn
    have hE : stopE ⟨H, R⟩ p = 0 := stopE_iff.2 ⟨hA, hm p (List.mem_cons_self ..)⟩
    obtain ⟨R', h1, h2, h3⟩ := patch_gone (H := H) L1 (stopF p R) (asc_stopF hA) hn2 fun q hq => mem_stopF.2 ⟨hm q (List.mem_cons_of_mem _ hq), fun e => hn1 (e ▸ hq)⟩
    refine ⟨R', h1, fun q => ?_, fun L => ?_⟩
    · rw [h2, mem_stopF, List.mem_cons, not_or, and_assoc]
    · show patchG _ (mkD 1 p :: _) = _
      have e1 : oneE ⟨H, R⟩ (mkD 1 p) = 0 := hE
      have e2 : oneW ⟨H, R⟩ (mkD 1 p) = ⟨H, stopF p R⟩ := stopW_eq hE
      rw [patch_cons e1, e2]
      exact h3 L
theorem patch_new {H : List StateD} : ∀ (L2 R : List ReplicaD), Asc R → L2.Nodup → (∀ p ∈ L2, p ∉ R ∧ 0 ≤ p.service ∧ 0 ≤ p.host) → R.length + L2.length ≤ 24 → ∃ R', Asc R' ∧ (∀ q, q ∈ R' ↔ q ∈ R ∨ q ∈ L2) ∧ ∀ L, patchG ⟨H, R⟩ (L2.map (mkD 2) ++ L) = patchG ⟨H, R'⟩ L
  | [], R, hA, _, _, _ => ⟨R, hA, fun q => by simp, fun L => rfl⟩
  | p :: L2, R, hA, hn, hm, hl => by
    obtain ⟨hn1, hn2⟩ := List.nodup_cons.1 hn
    obtain ⟨m1, m2, m3⟩ := hm p (List.mem_cons_self ..)
    simp only [List.length_cons] at hl
    have hE : startE ⟨H, R⟩ p = 0 := startE_iff.2 ⟨hA, m2, m3, m1, by simp only; omega⟩
    obtain ⟨R', h1, h2, h3⟩ := patch_new (H := H) L2 (startL p R) (asc_startL hA m1) hn2 (fun q hq => by
      obtain ⟨a, b, c⟩ := hm q (List.mem_cons_of_mem _ hq)
      exact ⟨fun h => by rcases mem_startL.1 h with e | e; exact hn1 (e ▸ hq); exact a e, b, c⟩) (by rw [len_startL]; omega)
    refine ⟨R', h1, fun q => ?_, fun L => ?_⟩
    · rw [h2, mem_startL, List.mem_cons]
      constructor
      · rintro ((h | h) | h)
        · exact .inr (.inl h)
        · exact .inl h
        · exact .inr (.inr h)
      · rintro (h | h | h)
        · exact .inl (.inr h)
        · exact .inl (.inl h)
        · exact .inr h
    · show patchG _ (mkD 2 p :: _) = _
      have e1 : oneE ⟨H, R⟩ (mkD 2 p) = 0 := hE
      have e2 : oneW ⟨H, R⟩ (mkD 2 p) = ⟨H, startL p R⟩ := startW_eq hE
      rw [patch_cons e1, e2]
      exact h3 L
theorem asc_nodup {l : List ReplicaD} (h : Asc l) : l.Nodup := by
  refine List.Pairwise.imp ?_ h
  intro a b hab e
  subst e
  exact ord_irr a hab
theorem mem_onlyL {p : ReplicaD} {a b : List ReplicaD} : p ∈ onlyL a b ↔ p ∈ a ∧ p ∉ b := by
  unfold onlyL
  rw [List.mem_filter, Bool.not_eq_true', ← Bool.not_eq_true, hasB_iff]
/-- The differences lead from a world to the other one. -/
theorem patch_diff {a b : WorldD} (ha : Asc a.replicas) (hb : Asc b.replicas) (hl : a.hosts.length = b.hosts.length) (hp : ∀ y ∈ b.hosts, 0 ≤ y.phase ∧ y.phase ≤ 255) (hn : ∀ p ∈ b.replicas, 0 ≤ p.service ∧ 0 ≤ p.host) (h24 : b.replicas.length ≤ 24) :
    patchG a (diffL a b) = (0, b) := by
  obtain ⟨R1, h1, h2, h3⟩ := patch_gone (H := b.hosts) (onlyL a.replicas b.replicas) a.replicas ha ((asc_nodup ha).filter _) fun p hp => (mem_onlyL.1 hp).1
  have hm1 : ∀ q, q ∈ R1 ↔ q ∈ b.replicas.filter (hasB a.replicas) := fun q => by
    rw [h2, mem_onlyL, List.mem_filter, hasB_iff]
    constructor
    · rintro ⟨x, y⟩; exact ⟨Classical.byContradiction fun h => y ⟨x, h⟩, x⟩
    · rintro ⟨x, y⟩; exact ⟨y, fun h => h.2 x⟩
  have e1 : R1 = b.replicas.filter (hasB a.replicas) := asc_ext h1 (List.Pairwise.filter _ hb) hm1
  have hlen : R1.length + (onlyL b.replicas a.replicas).length ≤ 24 := by
    have h := List.length_eq_countP_add_countP (hasB a.replicas) (l := b.replicas)
    rw [List.countP_eq_length_filter, List.countP_eq_length_filter] at h
    have e2 : (b.replicas.filter fun x => decide ¬hasB a.replicas x = true) = onlyL b.replicas a.replicas := by
      unfold onlyL
      refine List.filter_congr fun x _ => ?_
      cases hasB a.replicas x <;> rfl
    rw [e2] at h
    rw [e1]; omega
  obtain ⟨R2, g1, g2, g3⟩ := patch_new (H := b.hosts) (onlyL b.replicas a.replicas) R1 h1 ((asc_nodup hb).filter _) (fun p hp => by
    obtain ⟨x, y⟩ := mem_onlyL.1 hp
    exact ⟨fun h => y (by have := (hm1 p).1 h; exact hasB_iff.1 (List.mem_filter.1 this).2), hn p x⟩) hlen
  have e2 : R2 = b.replicas := asc_ext g1 hb fun q => by
    rw [g2, hm1, mem_onlyL, List.mem_filter, hasB_iff]
    constructor
    · rintro (h | h)
      · exact h.1
      · exact h.1
    · intro h
      by_cases hq : q ∈ a.replicas
      · exact .inl ⟨h, hq⟩
      · exact .inr ⟨h, hq⟩
  have s1 := patch_hosts (R := a.replicas) (asc_iff.2 ha) a.hosts b.hosts [] ((onlyL a.replicas b.replicas).map (mkD 1) ++ (onlyL b.replicas a.replicas).map (mkD 2)) hl hp
  simp only [List.nil_append, List.length_nil] at s1
  have s2 := h3 ((onlyL b.replicas a.replicas).map (mkD 2))
  have s3 := g3 []
  rw [List.append_nil] at s3
  unfold diffL
  rw [s1, s2, s3, e2]
  rfl
end
end Go.Proofs.Ytmcdgepfhpakiaa
