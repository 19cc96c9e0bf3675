/- The plain law of WorldSums. -/
import Derived.Test.YtbfmabkdggllhaaPure13
namespace Go.Proofs.Ytbfmabkdggllhaa
set_option linter.unusedSimpArgs false
set_option linter.unusedVariables false
open Go Go.RowKit
set_option linter.unusedSectionVars false
/-- The sum of the cores of replicas. -/
def coresS (wl : List ServiceD) : List ReplicaD → Int
  | [] => 0
  | r :: t => coresAt wl r.service + coresS wl t
theorem coresS_append (wl : List ServiceD) : ∀ a b : List ReplicaD, coresS wl (a ++ b) = coresS wl a + coresS wl b
  | [], b => by simp [coresS]
  | r :: a, b => by simp only [List.cons_append, coresS, coresS_append wl a b]; omega
theorem coresS_nonneg {wl : List ServiceD} : ∀ {l : List ReplicaD}, (∀ r ∈ l, 0 ≤ coresAt wl r.service) → 0 ≤ coresS wl l
  | [], _ => by simp [coresS]
  | r :: l, h => by
    have h1 := h r (List.mem_cons_self ..)
    have h2 := coresS_nonneg fun r hr => h r (List.mem_cons_of_mem _ hr)
    simp only [coresS]; omega
theorem coresS_le {wl : List ServiceD} : ∀ {l : List ReplicaD}, (∀ r ∈ l, coresAt wl r.service ≤ 1000) → coresS wl l ≤ 1000 * l.length
  | [], _ => by simp [coresS]
  | r :: l, h => by
    have h1 := h r (List.mem_cons_self ..)
    have h2 := coresS_le fun r hr => h r (List.mem_cons_of_mem _ hr)
    simp only [coresS, List.length_cons]; omega
theorem coresS_filter_le {wl : List ServiceD} (p : ReplicaD → Bool) : ∀ {l : List ReplicaD}, (∀ r ∈ l, 0 ≤ coresAt wl r.service) → coresS wl (l.filter p) ≤ coresS wl l
  | [], _ => by simp [coresS]
  | r :: l, h => by
    have h1 := h r (List.mem_cons_self ..)
    have h2 := coresS_filter_le p fun r hr => h r (List.mem_cons_of_mem _ hr)
    by_cases e : p r = true
    · rw [List.filter_cons_of_pos e]; simp only [coresS]; omega
    · rw [List.filter_cons_of_neg e]; simp only [coresS]; omega
/-- Two kinds that exclude each other. -/
theorem coresS_split {wl : List ServiceD} {p q s : ReplicaD → Bool} : ∀ {l : List ReplicaD}, (∀ r ∈ l, s r = (p r || q r) ∧ (p r && q r) = false) → coresS wl (l.filter s) = coresS wl (l.filter p) + coresS wl (l.filter q)
  | [], _ => by simp [coresS]
  | r :: l, h => by
    have h1 := h r (List.mem_cons_self ..)
    have h2 := coresS_split (wl := wl) (l := l) fun r hr => h r (List.mem_cons_of_mem _ hr)
    cases hp : p r <;> cases hq : q r <;> simp [hp, hq] at h1 <;> simp [List.filter_cons, hp, hq, h1, coresS] <;> omega
theorem len_split {p q s : ReplicaD → Bool} : ∀ {l : List ReplicaD}, (∀ r ∈ l, s r = (p r || q r) ∧ (p r && q r) = false) → (l.filter s).length = (l.filter p).length + (l.filter q).length
  | [], _ => by simp
  | r :: l, h => by
    have h1 := h r (List.mem_cons_self ..)
    have h2 := len_split (l := l) fun r hr => h r (List.mem_cons_of_mem _ hr)
    cases hp : p r <;> cases hq : q r <;> simp [hp, hq] at h1 <;> simp [List.filter_cons, hp, hq, h1] <;> omega
theorem coresS_same {wl : List ServiceD} {k c : Int} (hc : coresAt wl k = c) : ∀ (l : List ReplicaD), coresS wl (l.filter fun r => r.service == k) = ((l.filter fun r => r.service == k).length : Int) * c
  | [] => by simp [coresS]
  | r :: l => by
    have ih := coresS_same hc l
    by_cases e : r.service = k
    · have e' : (r.service == k) = true := by simpa using e
      rw [List.filter_cons_of_pos (by simpa using e)]
      simp only [coresS, List.length_cons, ih, e, hc]
      rw [Int.natCast_add, Int.add_mul]
      omega
    · rw [List.filter_cons_of_neg (by simpa using e)]
      exact ih
theorem usedF_sum {wl : List ServiceD} {host : Int} : ∀ {l : List ReplicaD} {acc : Int}, (∀ r ∈ l, idx r.service wl.length = true ∧ 0 ≤ coresAt wl r.service ∧ coresAt wl r.service ≤ 1000) → 0 ≤ acc → acc + 1000 * l.length ≤ 1000000000 → usedF wl host acc l = acc + coresS wl (l.filter fun r => r.host == host)
  | [], acc, _, _, _ => by simp [usedF, coresS]
  | r :: l, acc, h, h0, hb => by
    have h1 := h r (List.mem_cons_self ..)
    have hl := fun r hr => h r (List.mem_cons_of_mem _ hr)
    rw [List.length_cons] at hb
    rw [usedF]
    by_cases e : r.host = host
    · rw [if_pos ⟨e, h1.1⟩, List.filter_cons_of_pos (by simpa using e), wrap_i64_id (by omega) (by omega), usedF_sum hl (by omega) (by omega)]
      simp only [coresS]; omega
    · rw [if_neg (fun h => e h.1), List.filter_cons_of_neg (by simpa using e), usedF_sum hl h0 (by omega)]
/-- What a valid world says of its replicas. -/
structure SumsOk (s : SiteD) (wl : List ServiceD) (x : WorldD) : Prop where
  len : x.replicas.length ≤ 24
  svc : ∀ r ∈ x.replicas, 0 ≤ r.service ∧ r.service < wl.length
  host : ∀ r ∈ x.replicas, 0 ≤ r.host ∧ r.host < s.hosts.length
  core : ∀ r ∈ x.replicas, 0 ≤ coresAt wl r.service ∧ coresAt wl r.service ≤ 1000
  all : ∀ k : Nat, k < wl.length → 0 ≤ coresAt wl k ∧ coresAt wl k ≤ 1000
def below (f : ReplicaD → Int) (k : Nat) (r : ReplicaD) : Bool := decide (f r < (k : Int))
theorem below_split {f : ReplicaD → Int} {k : Nat} {l : List ReplicaD} (hf : ∀ r ∈ l, 0 ≤ f r) : ∀ r ∈ l, below f (k + 1) r = (below f k r || (f r == (k : Int))) ∧ (below f k r && (f r == (k : Int))) = false := by
  intro r hr
  have := hf r hr
  unfold below
  constructor
  · rw [Bool.eq_iff_iff]
    simp only [decide_eq_true_eq, Bool.or_eq_true, beq_iff_eq]
    omega
  · rw [← Bool.not_eq_true]
    simp only [Bool.and_eq_true, decide_eq_true_eq, beq_iff_eq]
    omega
theorem below_all {f : ReplicaD → Int} {n : Nat} {l : List ReplicaD} (hf : ∀ r ∈ l, f r < n) : l.filter (below f n) = l :=
  List.filter_eq_self.2 fun r hr => by simpa [below] using hf r hr
theorem below_zero {f : ReplicaD → Int} {l : List ReplicaD} (hf : ∀ r ∈ l, 0 ≤ f r) : l.filter (below f 0) = [] :=
  List.filter_eq_nil_iff.2 fun r hr => by simpa [below] using hf r hr
theorem srvs_all {n : Int} : ∀ {i : Nat} {l : List ServiceD}, srvsB n i l = true → ∀ x ∈ l, btw x.cores 1 1000 = true
  | _, [], _, _, h => by simp at h
  | i, y :: r, hh, x, h => by
    simp only [srvsB, Bool.and_eq_true] at hh
    rcases List.mem_cons.1 h with rfl | h
    · have h1 := hh.1
      simp only [serviceB, Bool.and_eq_true] at h1
      exact h1.1.1.1.1.1.1.1
    · exact srvs_all hh.2 x h
theorem sums_ok {s : SiteD} {wl : List ServiceD} {x : WorldD} (h : validB s wl x = true) : SumsOk s wl x := by
  simp only [validB, Bool.and_eq_true, decide_eq_true_eq] at h
  obtain ⟨⟨⟨⟨⟨⟨h1, h2⟩, h3⟩, h4⟩, h5⟩, h6⟩, h7⟩ := h
  simp only [wishB, Bool.and_eq_true] at h2
  have hall : ∀ k : Nat, k < wl.length → 0 ≤ coresAt wl k ∧ coresAt wl k ≤ 1000 := by
    intro k hk
    have h8 := srvs_all h2.1.2 wl[k] (List.getElem_mem hk)
    simp only [btw, Bool.and_eq_true, decide_eq_true_eq] at h8
    have : coresAt wl (k : Int) = wl[k].cores := by simp [coresAt, hk]
    rw [this]
    omega
  have hr := List.all_eq_true.1 h7
  have hsv : ∀ r ∈ x.replicas, (0 ≤ r.service ∧ r.service < wl.length) ∧ 0 ≤ r.host ∧ r.host < s.hosts.length := by
    intro r hr'
    have h9 := hr r hr'
    simp only [replB, idx, Bool.and_eq_true, decide_eq_true_eq] at h9
    omega
  refine ⟨h4, fun r hr' => (hsv r hr').1, fun r hr' => (hsv r hr').2, fun r hr' => ?_, hall⟩
  have h10 := (hsv r hr').1
  have h11 := hall r.service.toNat (by omega)
  rwa [show ((r.service.toNat : Nat) : Int) = r.service by omega] at h11
/-- How many replicas, how many cores, of the services below k; cores on the hosts below h. -/
def nS (x : WorldD) (k : Nat) : Nat := (x.replicas.filter (below (·.service) k)).length
def cS (wl : List ServiceD) (x : WorldD) (k : Nat) : Int := coresS wl (x.replicas.filter (below (·.service) k))
def uS (wl : List ServiceD) (x : WorldD) (h : Nat) : Int := coresS wl (x.replicas.filter (below (·.host) h))
section
variable {s : SiteD} {wl : List ServiceD} {x : WorldD}
theorem whereF_len (l : List ReplicaD) (k : Int) : (whereF k l).length = (l.filter fun r => r.service == k).length := by simp [whereF]
theorem nS_succ (h : SumsOk s wl x) (k : Nat) : nS x (k + 1) = nS x k + (whereL x k).length := by
  rw [nS, nS, whereL, whereF_len]
  exact len_split (below_split fun r hr => (h.svc r hr).1)
theorem cS_succ (h : SumsOk s wl x) (k : Nat) : cS wl x (k + 1) = cS wl x k + ((whereL x k).length : Int) * coresAt wl k := by
  rw [cS, cS, whereL, whereF_len, ← coresS_same rfl]
  exact coresS_split (below_split fun r hr => (h.svc r hr).1)
theorem used_ok (h : SumsOk s wl x) (k : Nat) : usedI wl x k = coresS wl (x.replicas.filter fun r => r.host == (k : Int)) := by
  have hl := h.len
  rw [usedI, usedF_sum (fun r hr => ⟨by have := h.svc r hr; simp [idx, this], h.core r hr⟩) (Int.le_refl _) (by omega)]
  omega
theorem uS_succ (h : SumsOk s wl x) (k : Nat) : uS wl x (k + 1) = uS wl x k + usedI wl x k := by
  rw [uS, uS, used_ok h]
  exact coresS_split (below_split fun r hr => (h.host r hr).1)
theorem nS_le (h : SumsOk s wl x) (k : Nat) : nS x k ≤ 24 := Nat.le_trans (List.length_filter_le _ _) h.len
theorem coresS_bd (h : SumsOk s wl x) (p : ReplicaD → Bool) : 0 ≤ coresS wl (x.replicas.filter p) ∧ coresS wl (x.replicas.filter p) ≤ 24000 := by
  have h1 := fun r hr => h.core r (List.mem_filter (p := p).1 hr).1
  have h2 : (x.replicas.filter p).length ≤ 24 := Nat.le_trans (List.length_filter_le _ _) h.len
  have h3 := coresS_le fun r hr => (h1 r hr).2
  exact ⟨coresS_nonneg fun r hr => (h1 r hr).1, by omega⟩
theorem nS_all (h : SumsOk s wl x) : nS x wl.length = x.replicas.length := by
  rw [nS, below_all fun r hr => (h.svc r hr).2]
theorem cS_all (h : SumsOk s wl x) : cS wl x wl.length = coresS wl x.replicas := by
  rw [cS, below_all fun r hr => (h.svc r hr).2]
theorem uS_all (h : SumsOk s wl x) : uS wl x s.hosts.length = coresS wl x.replicas := by
  rw [uS, below_all fun r hr => (h.host r hr).2]
theorem nS_zero (h : SumsOk s wl x) : nS x 0 = 0 := by
  rw [nS, below_zero fun r hr => (h.svc r hr).1]; rfl
theorem cS_zero (h : SumsOk s wl x) : cS wl x 0 = 0 := by
  rw [cS, below_zero fun r hr => (h.svc r hr).1]; rfl
theorem uS_zero (h : SumsOk s wl x) : uS wl x 0 = 0 := by
  rw [uS, below_zero fun r hr => (h.host r hr).1]; rfl
theorem where_host (h : SumsOk s wl x) (k : Int) : ∀ n ∈ whereL x k, 0 ≤ n ∧ n < s.hosts.length := by
  intro n hn
  obtain ⟨r, hr, rfl⟩ := List.mem_map.1 hn
  exact h.host r (List.mem_filter.1 hr).1
theorem where_le (h : SumsOk s wl x) (k : Int) : (whereL x k).length ≤ 24 := by
  rw [whereL, whereF_len]
  exact Nat.le_trans (List.length_filter_le _ _) h.len
end
end Go.Proofs.Ytbfmabkdggllhaa
