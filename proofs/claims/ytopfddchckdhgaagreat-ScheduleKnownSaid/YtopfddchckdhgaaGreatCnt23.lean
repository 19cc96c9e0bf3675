
/- Count and DomainOf: the document's answers, layer 12, and the layer site. -/
import Derived.Test.YtopfddchckdhgaaGreatWorld1
import Derived.Test.YtopfddchckdhgaaGreatRef12
import Derived.Test.YtopfddchckdhgaaGreatMid
namespace Go.Proofs.YtopfddchckdhgaaGreat
set_option linter.unusedSimpArgs false
set_option linter.unusedVariables false
open Go Go.RowKit
set_option maxRecDepth 100000
set_option linter.unusedSectionVars false
set_option maxHeartbeats 2000000
theorem sxCnt230 {p q : Prop} (hq : q) (h : p = q := by first | (simp (maxDischargeDepth := 3) only [↓X, ↓Y, ↓Q, S1, ↓reduceIte, Nat.reduceEqDiff, Nat.reduceAdd, Int.reduceLT, Int.reduceLE, Int.reduceNeg, Int.reduceBEq, Int.reduceBNe, Int.reduceEq, Nat.reduceLeDiff, Nat.reduceMul, Nat.reduceLT, *, siteC]; try exact rfl) | (simp (singlePass := true) (maxDischargeDepth := 99) only [*, S2, Nat.reduceLT, siteC]; try exact rfl)) : p := h ▸ hq
theorem sxCnt231 {p q : Prop} (hq : q) (h : p = q := by first | (simp (maxDischargeDepth := 3) only [↓X, ↓Y, ↓Q, S1, ↓reduceIte, Nat.reduceEqDiff, Nat.reduceAdd, Int.reduceLT, Int.reduceLE, Int.reduceNeg, Int.reduceBEq, Int.reduceBNe, Int.reduceEq, Nat.reduceLeDiff, Nat.reduceMul, Nat.reduceLT, *, siteC, hostV, rackV, breakerV]; try exact rfl) | (simp (singlePass := true) (maxDischargeDepth := 99) only [*, S2, Nat.reduceLT, siteC, hostV, rackV, breakerV]; try exact rfl)) : p := h ▸ hq
def hostS (s : SiteD) (i : Int) : HostD := (s.hosts[i.toNat]?).getD ⟨0, 0, 0, 0⟩
def rackS (s : SiteD) (i : Int) : RackD := (s.racks[i.toNat]?).getD ⟨0, 0, 0, 0⟩
def breakerS (s : SiteD) (i : Int) : BreakerD := (s.breakers[i.toNat]?).getD ⟨0, 0, 0, 0⟩
def countF (s : SiteD) (d : Int) : Int := if siteB s = true then (if d = 1 then s.hosts.length else if d = 2 then s.racks.length else if d = 3 then 4 else if d = 4 then s.feeds.length else if d = 5 then s.loops.length else 0) else 0
def domF (s : SiteD) (d h : Int) : Int := if siteB s = true ∧ idx h s.hosts.length = true then (if d = 1 then h else if d = 2 then (hostS s h).rack else if d = 3 then (rackS s (hostS s h).rack).row else if d = 4 then (breakerS s (rackS s (hostS s h).rack).breaker).feed else if d = 5 then (rackS s (hostS s h).rack).loop else -1) else -1
theorem hostS_at {s : SiteD} {i : Nat} (h : i < s.hosts.length) : hostS s (i : Int) = s.hosts[i] := by simp [hostS, h]
theorem rackS_at {s : SiteD} {i : Nat} (h : i < s.racks.length) : rackS s (i : Int) = s.racks[i] := by simp [rackS, h]
theorem breakerS_at {s : SiteD} {i : Nat} (h : i < s.breakers.length) : breakerS s (i : Int) = s.breakers[i] := by simp [breakerS, h]
theorem site_all {s : SiteD} (h : siteB s = true) : (∀ x ∈ s.breakers, idx x.feed s.feeds.length = true) ∧ (∀ x ∈ s.racks, rackB s x = true) ∧ (∀ x ∈ s.links, linkB s x = true) ∧ (∀ x ∈ s.hosts, hostB s x = true) ∧ sizesB s = true := by
  simp only [siteB, Bool.and_eq_true, List.all_eq_true] at h
  obtain ⟨⟨⟨⟨⟨⟨h1, h2⟩, h3⟩, h4⟩, h5⟩, h6⟩, h7⟩ := h
  refine ⟨fun x hx => ?_, h5, h6, h7, h1⟩
  have := h3 x hx
  simp only [breakerB, Bool.and_eq_true] at this
  exact this.1
theorem idx_nat {n : Int} {m : Nat} (h : idx n (m : Int) = true) : ∃ k : Nat, n = (k : Int) ∧ k < m := by
  simp only [idx, Bool.and_eq_true, decide_eq_true_eq] at h
  exact ⟨n.toNat, by omega, by omega⟩
/-- A host's rack, its breaker and the breaker's feed. -/
theorem host_rack {s : SiteD} (h : siteB s = true) {i : Nat} (hi : i < s.hosts.length) : ∃ r : Nat, s.hosts[i].rack = (r : Int) ∧ ∃ hr : r < s.racks.length, ∃ b : Nat, s.racks[r].breaker = (b : Int) ∧ ∃ hb : b < s.breakers.length, rackB s s.racks[r] = true := by
  obtain ⟨h1, h2, _, h4, _⟩ := site_all h
  have a := h4 _ (List.getElem_mem hi)
  simp only [hostB, Bool.and_eq_true] at a
  obtain ⟨r, e, hr⟩ := idx_nat a.1.1.1
  have b := h2 _ (List.getElem_mem hr)
  have b' := b
  simp only [rackB, Bool.and_eq_true] at b
  obtain ⟨k, e2, hk⟩ := idx_nat b.1.1.2
  exact ⟨r, e, hr, k, e2, hk, b'⟩
section
variable {w : World} {B : Nat} {u : SiteVs} {s : SiteD}
theorem ref12Count (hB : B ≤ w.heap.size) (hs : SiteR w B u s) {d : Int} : Ret Tryz.prog 62 #[.agg (siteC u s).toArray, .int .u8 d] w (intV (countF s d)) := by
  have hn : Now w := trivial
  have hx : Ext w w := Ext.refl w
  have hs' := hs.sk hB
  have hS := hs'.2.2.2.2.2.2
  have hbw : Bl B w w := Bl.refl hB
  have hv := fun w' (h1 : Bl B w w') (h3 : B ≤ w'.heap.size) => ref12Valid (w := w') h3 (hS w' h1)
  unfold countF
  cases hsb : siteB s <;> rw [hsb] at hv
  · simp only [Bool.false_eq_true, if_false]
    clear hsb
    (refine callsV_of Tryz.func62 rfl KR KR ?_; rw [Tryz.results62])
    (repeat' first
    | with_reducible first | exact ⟨⟩ | (refine gB ?_; intros) | refine gT ?_ ?_
    | refine gs ?_
    | ((with_reducible refine at_f 59 ?_); refine ret_k (hv _ FR FR) fun _ _ _ => ?_)
    | refine sxCnt230 ?_)
  · simp only [if_true]
    clear hsb
    (refine callsV_of Tryz.func62 rfl KR KR ?_; rw [Tryz.results62])
    (repeat' first
    | with_reducible first | exact ⟨⟩ | (refine gB ?_; intros) | refine gT ?_ ?_
    | refine gs ?_
    | ((with_reducible refine at_f 59 ?_); refine ret_k (hv _ FR FR) fun _ _ _ => ?_)
    | refine sxCnt230 ?_)
theorem ref12DomainOf (hB : B ≤ w.heap.size) (hs : SiteR w B u s) {d h : Int} : Ret Tryz.prog 128 #[.agg (siteC u s).toArray, .int .u8 d, intV h] w (intV (domF s d h)) := by
  have hn : Now w := trivial
  have hx : Ext w w := Ext.refl w
  have hs' := hs.sk hB
  have hS := hs'.2.2.2.2.2.2
  have hbw : Bl B w w := Bl.refl hB
  have hv := fun w' (h1 : Bl B w w') (h3 : B ≤ w'.heap.size) => ref12Valid (w := w') h3 (hS w' h1)
  have hF := hs.h.fk
  have rF := hs.r.fk
  have bF := hs.b.fk
  unfold domF
  have hq := fun h0 (i : Nat) (hi : i < s.hosts.length) => host_rack (s := s) h0 hi
  replace hq : Hid _ := hq
  cases hsb : siteB s <;> rw [hsb] at hv
  · simp only [Bool.false_eq_true, false_and, if_false]
    clear hsb
    (refine callsV_of Tryz.func128 rfl KR KR ?_; rw [Tryz.results128])
    (repeat' first
    | with_reducible first | exact ⟨⟩ | (refine gB ?_; intros) | refine gT ?_ ?_
    | refine gs ?_
    | ((with_reducible refine at_f 59 ?_); refine ret_k (hv _ FR FR) fun _ _ _ => ?_)
    | refine sxCnt230 ?_)
  · by_cases hi : idx h s.hosts.length = true
    · obtain ⟨i, rfl, hil⟩ := idx_nat hi
      obtain ⟨r, hr, hrl, b, hb, hbl, _⟩ := hq.out hsb i hil
      simp only [hi, and_self, if_true]
      rw [hostS_at hil, hr, rackS_at hrl, hb, breakerS_at hbl]
      have hnl : ¬ s.hosts.length ≤ i := by omega
      clear hsb hi hq
      (refine callsV_of Tryz.func128 rfl KR KR ?_; rw [Tryz.results128])
      (repeat' first
    | with_reducible first | exact ⟨⟩ | (refine gB ?_; intros) | refine gT ?_ ?_
    | refine gs ?_
    | ((with_reducible refine at_f 59 ?_); refine ret_k (hv _ FR FR) fun _ _ _ => ?_)
    | refine sxCnt231 ?_)
      all_goals trace_state
    · simp only [hi, and_false, if_false]
      have h2 : h < 0 ∨ (s.hosts.length : Int) ≤ h := by simp only [idx, Bool.and_eq_true, decide_eq_true_eq] at hi; omega
      clear hsb hi hq
      (refine callsV_of Tryz.func128 rfl KR KR ?_; rw [Tryz.results128])
      rcases h2 with h2 | h2
      · (repeat' first
    | with_reducible first | exact ⟨⟩ | (refine gB ?_; intros) | refine gT ?_ ?_
    | refine gs ?_
    | ((with_reducible refine at_f 59 ?_); refine ret_k (hv _ FR FR) fun _ _ _ => ?_)
    | refine sxCnt230 ?_)
      · (repeat' first
    | with_reducible first | exact ⟨⟩ | (refine gB ?_; intros) | refine gT ?_ ?_
    | refine gs ?_
    | ((with_reducible refine at_f 59 ?_); refine ret_k (hv _ FR FR) fun _ _ _ => ?_)
    | refine sxCnt230 ?_)
        all_goals trace_state
theorem siteCount (hB : B ≤ w.heap.size) (hs : SiteR w B u s) {d : Int} : Ret Tryz.prog 42 #[.agg (siteC u s).toArray, .int .u8 d] w (intV (countF s d)) := by
  have hn : Now w := trivial
  have hx : Ext w w := Ext.refl w
  have hs' := hs.sk hB
  have hS := hs'.2.2.2.2.2.2
  have hbw : Bl B w w := Bl.refl hB
  have hv := fun w' (h1 : Bl B w w') (h3 : B ≤ w'.heap.size) => siteValid (w := w') h3 (hS w' h1)
  unfold countF
  cases hsb : siteB s <;> rw [hsb] at hv
  · simp only [Bool.false_eq_true, if_false]
    clear hsb
    (refine callsV_of Tryz.func42 rfl KR KR ?_; rw [Tryz.results42])
    (repeat' first
    | with_reducible first | exact ⟨⟩ | (refine gB ?_; intros) | refine gT ?_ ?_
    | refine gs ?_
    | ((with_reducible refine at_f 39 ?_); refine ret_k (hv _ FR FR) fun _ _ _ => ?_)
    | refine sxCnt230 ?_)
  · simp only [if_true]
    clear hsb
    (refine callsV_of Tryz.func42 rfl KR KR ?_; rw [Tryz.results42])
    (repeat' first
    | with_reducible first | exact ⟨⟩ | (refine gB ?_; intros) | refine gT ?_ ?_
    | refine gs ?_
    | ((with_reducible refine at_f 39 ?_); refine ret_k (hv _ FR FR) fun _ _ _ => ?_)
    | refine sxCnt230 ?_)
theorem siteDomain (hB : B ≤ w.heap.size) (hs : SiteR w B u s) {d : Int} {i : Nat} (hsb : siteB s = true) (hil : i < s.hosts.length) : Ret Tryz.prog 136 #[.agg (siteC u s).toArray, .int .u8 d, intV i] w (intV (domF s d i)) := by
  have hn : Now w := trivial
  have hx : Ext w w := Ext.refl w
  have hs' := hs.sk hB
  have hbw : Bl B w w := Bl.refl hB
  have hF := hs.h.fk
  have rF := hs.r.fk
  have bF := hs.b.fk
  obtain ⟨r, hr, hrl, b, hb, hbl, _⟩ := host_rack (s := s) hsb hil
  have hi : idx (i : Int) s.hosts.length = true := by simp only [idx, Bool.and_eq_true, decide_eq_true_eq]; omega
  unfold domF
  simp only [hsb, hi, and_self, if_true]
  rw [hostS_at hil, hr, rackS_at hrl, hb, breakerS_at hbl]
  clear hsb hi
  (refine callsV_of Tryz.func136 rfl KR KR ?_; rw [Tryz.results136])
  (repeat' first
    | with_reducible first | exact ⟨⟩ | (refine gB ?_; intros) | refine gT ?_ ?_
    | refine gs ?_
    | refine sxCnt231 ?_)
theorem siteDomainOf (hB : B ≤ w.heap.size) (hs : SiteR w B u s) {d h : Int} : Ret Tryz.prog 129 #[.agg (siteC u s).toArray, .int .u8 d, intV h] w (intV (domF s d h)) := by
  have hn : Now w := trivial
  have hx : Ext w w := Ext.refl w
  have hs' := hs.sk hB
  have hS := hs'.2.2.2.2.2.2
  have hbw : Bl B w w := Bl.refl hB
  have hv := fun w' (h1 : Bl B w w') (h3 : B ≤ w'.heap.size) => siteValid (w := w') h3 (hS w' h1)
  by_cases hi : idx h s.hosts.length = true
  · obtain ⟨i, rfl, hil⟩ := idx_nat hi
    have hdm := fun w' (h1 : Bl B w w') (h3 : B ≤ w'.heap.size) h0 => siteDomain (w := w') (d := d) h3 (hS w' h1) h0 hil
    cases hsb : siteB s <;> rw [hsb] at hv
    · have e : domF s d i = -1 := by unfold domF; simp [hsb]
      rw [e]
      clear hsb hdm
      (refine callsV_of Tryz.func129 rfl KR KR ?_; rw [Tryz.results129])
      (repeat' first
    | with_reducible first | exact ⟨⟩ | (refine gB ?_; intros) | refine gT ?_ ?_
    | refine gs ?_
    | ((with_reducible refine at_f 76 ?_); refine ret_k (siteIndex) fun _ _ _ => ?_)
    | ((with_reducible refine at_f 39 ?_); refine ret_k (hv _ FR FR) fun _ _ _ => ?_)
    | simp (maxDischargeDepth := 3) only [↓X, ↓Y, ↓Q, S1, ↓reduceIte, Nat.reduceEqDiff, Nat.reduceAdd, Int.reduceLT, Int.reduceLE, Int.reduceNeg, Int.reduceBEq, Int.reduceBNe, Int.reduceEq, Nat.reduceLeDiff, Nat.reduceMul, Nat.reduceLT, *, siteC, hi]
    | simp (singlePass := true) (maxDischargeDepth := 99) only [*, S2, Nat.reduceLT, siteC, hi])
    · have hdm := fun w' h1 h3 => hdm w' h1 h3 hsb
      clear hsb
      (refine callsV_of Tryz.func129 rfl KR KR ?_; rw [Tryz.results129])
      (repeat' first
    | with_reducible first | exact ⟨⟩ | (refine gB ?_; intros) | refine gT ?_ ?_
    | refine gs ?_
    | ((with_reducible refine at_f 76 ?_); refine ret_k (siteIndex) fun _ _ _ => ?_)
    | ((with_reducible refine at_f 39 ?_); refine ret_k (hv _ FR FR) fun _ _ _ => ?_)
    | ((with_reducible refine at_f 136 ?_); refine ret_k (hdm _ FR FR) fun _ _ _ => ?_)
    | simp (maxDischargeDepth := 3) only [↓X, ↓Y, ↓Q, S1, ↓reduceIte, Nat.reduceEqDiff, Nat.reduceAdd, Int.reduceLT, Int.reduceLE, Int.reduceNeg, Int.reduceBEq, Int.reduceBNe, Int.reduceEq, Nat.reduceLeDiff, Nat.reduceMul, Nat.reduceLT, *, siteC, hi]
    | simp (singlePass := true) (maxDischargeDepth := 99) only [*, S2, Nat.reduceLT, siteC, hi])
  · have e : domF s d h = -1 := by unfold domF; simp [hi]
    have hi' : idx h s.hosts.length = false := by simpa using hi
    rw [e]
    clear hi
    (refine callsV_of Tryz.func129 rfl KR KR ?_; rw [Tryz.results129])
    (repeat' first
    | with_reducible first | exact ⟨⟩ | (refine gB ?_; intros) | refine gT ?_ ?_
    | refine gs ?_
    | ((with_reducible refine at_f 76 ?_); refine ret_k (siteIndex) fun _ _ _ => ?_)
    | ((with_reducible refine at_f 39 ?_); refine ret_k (hv _ FR FR) fun _ _ _ => ?_)
    | simp (maxDischargeDepth := 3) only [↓X, ↓Y, ↓Q, S1, ↓reduceIte, Nat.reduceEqDiff, Nat.reduceAdd, Int.reduceLT, Int.reduceLE, Int.reduceNeg, Int.reduceBEq, Int.reduceBNe, Int.reduceEq, Nat.reduceLeDiff, Nat.reduceMul, Nat.reduceLT, *, siteC, hi']
    | simp (singlePass := true) (maxDischargeDepth := 99) only [*, S2, Nat.reduceLT, siteC, hi'])
end
end Go.Proofs.YtopfddchckdhgaaGreat
