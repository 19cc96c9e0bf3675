
/- The document's answer, layer 12. -/
import Derived.Test.YtopfddchckdhgaaGreatWorld1
namespace Go.Proofs.YtopfddchckdhgaaGreat
set_option linter.unusedSimpArgs false
set_option linter.unusedVariables false
open Go Go.RowKit
set_option maxRecDepth 100000
set_option linter.unusedSectionVars false
set_option maxHeartbeats 1000000
theorem sxRef121 {p q : Prop} (hq : q) (h : p = q := by first | (simp (maxDischargeDepth := 3) only [↓X, ↓Y, ↓Q, S1, ↓reduceIte, Nat.reduceEqDiff, Nat.reduceAdd, Int.reduceLT, Int.reduceLE, Int.reduceNeg, Int.reduceBEq, Int.reduceBNe, Int.reduceEq, Nat.reduceLeDiff, Nat.reduceMul, Nat.reduceLT, *, siteC]; try exact rfl) | (simp (singlePass := true) (maxDischargeDepth := 99) only [*, S2, Nat.reduceLT, siteC]; try exact rfl)) : p := h ▸ hq
theorem sxRef122 {p q : Prop} (hq : q) (h : p = q := by first | (simp (maxDischargeDepth := 3) only [↓X, ↓Y, ↓Q, S1, ↓reduceIte, Nat.reduceEqDiff, Nat.reduceAdd, Int.reduceLT, Int.reduceLE, Int.reduceNeg, Int.reduceBEq, Int.reduceBNe, Int.reduceEq, Nat.reduceLeDiff, Nat.reduceMul, Nat.reduceLT, *, List.take_zero, List.all_nil, List.any_nil]; try exact rfl) | (simp (singlePass := true) (maxDischargeDepth := 99) only [*, S2, Nat.reduceLT, List.take_zero, List.all_nil, List.any_nil]; try exact rfl)) : p := h ▸ hq
theorem btw_idx (a n : Int) : btw a 0 (n - 1) = idx a n := by
  unfold btw idx
  congr 1
  rw [decide_eq_decide]; omega
theorem wrap_pred {n : Nat} (h : n ≤ 9223372036854775807) : IntKind.i64.wrap ((n : Int) - 1) = (n : Int) - 1 := by rw [wrap_i64_id] <;> omega
theorem ref12within {w : World} {a b c : Int} : Ret Tryz.prog 100 #[intV a, intV b, intV c] w (.bool (btw a b c)) := by
  have hn : Now w := trivial
  have hx : Ext w w := Ext.refl w
  (refine callsV_of Tryz.func100 rfl KR KR ?_; rw [Tryz.results100])
  (repeat' first
    | with_reducible first | exact ⟨⟩ | (refine gB ?_; intros) | refine gT ?_ ?_
    | refine gs ?_
    | refine sx ?_)
  all_goals (simp_all [btw] <;> omega)
def powerB (s : SiteD) : Bool := btw s.feeds.length 1 4 && btw s.breakers.length 1 8 && s.feeds.all feedB && s.breakers.all (breakerB s)
section
variable {w : World} {B : Nat} {u : SiteVs} {s : SiteD} (hB : B ≤ w.heap.size) (hs : SiteR w B u s)
include hB hs
theorem ref12power : Ret Tryz.prog 98 #[.agg (siteC u s).toArray] w (.bool (powerB s)) := by
  have hn : Now w := trivial
  have hx : Ext w w := Ext.refl w
  have hs' := hs.sk hB
  have f1 := hs.f.fk
  have w1 := wrap_pred hs.f.max_
  (refine callsV_of Tryz.func98 rfl KR KR ?_; rw [Tryz.results98])
  (repeat' first
    | with_reducible first | exact ⟨⟩ | (refine gB ?_; intros) | refine gT ?_ ?_
    | refine gs ?_
    | ((with_reducible refine at_f 100 ?_); refine ret_k (ref12within) fun _ _ _ => ?_)
    | refine sxRef121 ?_)
  all_goals (simp [powerB, *])
  refine loop_k (s.feeds.length) (fun g0 k g _ => g 3 = .int .i64 k ∧ (g 1 = g0 1) ∧ (s.feeds.take k).all feedB = true) KR (hs.f.max_) ?_ ?_ ?_
  · (repeat' first
    | with_reducible first | exact ⟨⟩ | (refine gB ?_; intros) | refine gT ?_ ?_
    | refine gs ?_
    | refine sxRef122 ?_)
  · rintro k m g wk hk hlt _ _ _ hw ⟨hi, hf, hp⟩
    simp (maxDischargeDepth := 3) only [U, ↓reduceIte, Nat.reduceEqDiff, *] at hf
    (repeat' first
    | with_reducible first | exact ⟨⟩ | (refine gB ?_; intros) | refine gT ?_ ?_
    | refine gs ?_
    | ((with_reducible refine at_f 100 ?_); refine ret_k (ref12within) fun _ _ _ => ?_)
    | simp (maxDischargeDepth := 3) only [↓X, ↓Y, ↓Q, S1, ↓reduceIte, Nat.reduceEqDiff, Nat.reduceAdd, Int.reduceLT, Int.reduceLE, Int.reduceNeg, Int.reduceBEq, Int.reduceBNe, Int.reduceEq, Nat.reduceLeDiff, Nat.reduceMul, Nat.reduceLT, *, feedV]
    | simp (singlePass := true) (maxDischargeDepth := 99) only [*, S2, Nat.reduceLT, feedV])
    all_goals first
      | (have hq : (feedB) (s.feeds)[k] = false := by simp [feedB, num, *]
         simp only [powerB, all_at hlt hq, Bool.and_false, Bool.false_and]; done)
      | (have hq : (feedB) (s.feeds)[k] = true := by simp [feedB, num, *]
         refine next_k hk hlt ?_ FR
         (repeat' first
    | with_reducible first | exact ⟨⟩ | (refine gB ?_; intros) | refine gT ?_ ?_
    | refine gs ?_
    | simp (maxDischargeDepth := 3) only [↓X, ↓Y, ↓Q, S1, ↓reduceIte, Nat.reduceEqDiff, Nat.reduceAdd, Int.reduceLT, Int.reduceLE, Int.reduceNeg, Int.reduceBEq, Int.reduceBNe, Int.reduceEq, Nat.reduceLeDiff, Nat.reduceMul, Nat.reduceLT, *, all_take hlt, hp, hq]
    | simp (singlePass := true) (maxDischargeDepth := 99) only [*, S2, Nat.reduceLT, all_take hlt, hp, hq]))
  · rintro g wk _ _ _ ⟨hi, hf, hp⟩
    simp (maxDischargeDepth := 3) only [U, ↓reduceIte, Nat.reduceEqDiff, *] at hf
    rw [take_all] at hp
    (repeat' first
    | with_reducible first | exact ⟨⟩ | (refine gB ?_; intros) | refine gT ?_ ?_
    | refine gs ?_
    | refine sx ?_)
    refine loop_k (s.breakers.length) (fun g0 k g _ => g 4 = .int .i64 k ∧ (g 1 = g0 1) ∧ (s.breakers.take k).all (breakerB s) = true) KR (hs.b.max_) ?_ ?_ ?_
    · (repeat' first
    | with_reducible first | exact ⟨⟩ | (refine gB ?_; intros) | refine gT ?_ ?_
    | refine gs ?_
    | refine sxRef122 ?_)
    · rintro k m g wk hk hlt _ _ _ hw ⟨hi, hf, hp⟩
      simp (maxDischargeDepth := 3) only [U, ↓reduceIte, Nat.reduceEqDiff, *] at hf
      (repeat' first
    | with_reducible first | exact ⟨⟩ | (refine gB ?_; intros) | refine gT ?_ ?_
    | refine gs ?_
    | ((with_reducible refine at_f 100 ?_); refine ret_k (ref12within) fun _ _ _ => ?_)
    | simp (maxDischargeDepth := 3) only [↓X, ↓Y, ↓Q, S1, ↓reduceIte, Nat.reduceEqDiff, Nat.reduceAdd, Int.reduceLT, Int.reduceLE, Int.reduceNeg, Int.reduceBEq, Int.reduceBNe, Int.reduceEq, Nat.reduceLeDiff, Nat.reduceMul, Nat.reduceLT, *, breakerV]
    | simp (singlePass := true) (maxDischargeDepth := 99) only [*, S2, Nat.reduceLT, breakerV])
      all_goals first
        | (have hq : (breakerB s) (s.breakers)[k] = false := by simp [breakerB, num, ← btw_idx, *]
           simp only [powerB, all_at hlt hq, Bool.and_false, Bool.false_and]; done)
        | (have hq : (breakerB s) (s.breakers)[k] = true := by simp [breakerB, num, ← btw_idx, *]
           refine next_k hk hlt ?_ FR
           (repeat' first
    | with_reducible first | exact ⟨⟩ | (refine gB ?_; intros) | refine gT ?_ ?_
    | refine gs ?_
    | simp (maxDischargeDepth := 3) only [↓X, ↓Y, ↓Q, S1, ↓reduceIte, Nat.reduceEqDiff, Nat.reduceAdd, Int.reduceLT, Int.reduceLE, Int.reduceNeg, Int.reduceBEq, Int.reduceBNe, Int.reduceEq, Nat.reduceLeDiff, Nat.reduceMul, Nat.reduceLT, *, all_take hlt, hp, hq]
    | simp (singlePass := true) (maxDischargeDepth := 99) only [*, S2, Nat.reduceLT, all_take hlt, hp, hq]))
    · rintro g wk _ _ _ ⟨hi, hf, hp⟩
      simp (maxDischargeDepth := 3) only [U, ↓reduceIte, Nat.reduceEqDiff, *] at hf
      rw [take_all] at hp
      (repeat' first
    | with_reducible first | exact ⟨⟩ | (refine gB ?_; intros) | refine gT ?_ ?_
    | refine gs ?_
    | refine sx ?_)
      all_goals (simp [powerB, *])
def roomsB (s : SiteD) : Bool := btw s.loops.length 1 4 && btw s.switches 1 8 && btw s.racks.length 1 8 && decide ((s.links.length : Int) ≤ 16) && s.loops.all loopB && s.racks.all (rackB s) && s.links.all (linkB s)
theorem ref12rooms : Ret Tryz.prog 99 #[.agg (siteC u s).toArray] w (.bool (roomsB s)) := by
  have hn : Now w := trivial
  have hx : Ext w w := Ext.refl w
  have hs' := hs.sk hB
  have f1 := hs.l.fk
  have w1 := wrap_pred hs.b.max_
  have w2 := wrap_pred hs.l.max_
  (refine callsV_of Tryz.func99 rfl KR KR ?_; rw [Tryz.results99])
  (repeat' first
    | with_reducible first | exact ⟨⟩ | (refine gB ?_; intros) | refine gT ?_ ?_
    | refine gs ?_
    | ((with_reducible refine at_f 100 ?_); refine ret_k (ref12within) fun _ _ _ => ?_)
    | refine sxRef121 ?_)
  all_goals (try (simp [roomsB, *]; done))
  · have : ¬ (s.links.length : Int) ≤ 16 := by rename_i h; simpa using h
    simp [roomsB, this]
  refine loop_k (s.loops.length) (fun g0 k g _ => g 3 = .int .i64 k ∧ (g 1 = g0 1) ∧ (s.loops.take k).all loopB = true) KR (hs.l.max_) ?_ ?_ ?_
  · (repeat' first
    | with_reducible first | exact ⟨⟩ | (refine gB ?_; intros) | refine gT ?_ ?_
    | refine gs ?_
    | refine sxRef122 ?_)
  · rintro k m g wk hk hlt _ _ _ hw ⟨hi, hf, hp⟩
    simp (maxDischargeDepth := 3) only [U, ↓reduceIte, Nat.reduceEqDiff, *] at hf
    (repeat' first
    | with_reducible first | exact ⟨⟩ | (refine gB ?_; intros) | refine gT ?_ ?_
    | refine gs ?_
    | ((with_reducible refine at_f 100 ?_); refine ret_k (ref12within) fun _ _ _ => ?_)
    | simp (maxDischargeDepth := 3) only [↓X, ↓Y, ↓Q, S1, ↓reduceIte, Nat.reduceEqDiff, Nat.reduceAdd, Int.reduceLT, Int.reduceLE, Int.reduceNeg, Int.reduceBEq, Int.reduceBNe, Int.reduceEq, Nat.reduceLeDiff, Nat.reduceMul, Nat.reduceLT, *, loopV]
    | simp (singlePass := true) (maxDischargeDepth := 99) only [*, S2, Nat.reduceLT, loopV])
    all_goals first
      | (have hq : (loopB) (s.loops)[k] = false := by simp [loopB, num, *]
         simp only [roomsB, all_at hlt hq, Bool.and_false, Bool.false_and]; done)
      | (have hq : (loopB) (s.loops)[k] = true := by simp [loopB, num, *]
         refine next_k hk hlt ?_ FR
         (repeat' first
    | with_reducible first | exact ⟨⟩ | (refine gB ?_; intros) | refine gT ?_ ?_
    | refine gs ?_
    | simp (maxDischargeDepth := 3) only [↓X, ↓Y, ↓Q, S1, ↓reduceIte, Nat.reduceEqDiff, Nat.reduceAdd, Int.reduceLT, Int.reduceLE, Int.reduceNeg, Int.reduceBEq, Int.reduceBNe, Int.reduceEq, Nat.reduceLeDiff, Nat.reduceMul, Nat.reduceLT, *, all_take hlt, hp, hq]
    | simp (singlePass := true) (maxDischargeDepth := 99) only [*, S2, Nat.reduceLT, all_take hlt, hp, hq]))
  · rintro g wk _ _ _ ⟨hi, hf, hp⟩
    simp (maxDischargeDepth := 3) only [U, ↓reduceIte, Nat.reduceEqDiff, *] at hf
    rw [take_all] at hp
    (repeat' first
    | with_reducible first | exact ⟨⟩ | (refine gB ?_; intros) | refine gT ?_ ?_
    | refine gs ?_
    | refine sx ?_)
    refine loop_k (s.racks.length) (fun g0 k g _ => g 4 = .int .i64 k ∧ (g 1 = g0 1) ∧ (s.racks.take k).all (rackB s) = true) KR (hs.r.max_) ?_ ?_ ?_
    · (repeat' first
    | with_reducible first | exact ⟨⟩ | (refine gB ?_; intros) | refine gT ?_ ?_
    | refine gs ?_
    | refine sxRef122 ?_)
    · rintro k m g wk hk hlt _ _ _ hw ⟨hi, hf, hp⟩
      simp (maxDischargeDepth := 3) only [U, ↓reduceIte, Nat.reduceEqDiff, *] at hf
      have w3 : IntKind.i64.wrap (s.switches - 1) = s.switches - 1 := by
        have : btw s.switches 1 8 = true := by assumption
        simp [btw] at this
        rw [wrap_i64_id] <;> omega
      (repeat' first
    | with_reducible first | exact ⟨⟩ | (refine gB ?_; intros) | refine gT ?_ ?_
    | refine gs ?_
    | ((with_reducible refine at_f 100 ?_); refine ret_k (ref12within) fun _ _ _ => ?_)
    | simp (maxDischargeDepth := 3) only [↓X, ↓Y, ↓Q, S1, ↓reduceIte, Nat.reduceEqDiff, Nat.reduceAdd, Int.reduceLT, Int.reduceLE, Int.reduceNeg, Int.reduceBEq, Int.reduceBNe, Int.reduceEq, Nat.reduceLeDiff, Nat.reduceMul, Nat.reduceLT, *, rackV]
    | simp (singlePass := true) (maxDischargeDepth := 99) only [*, S2, Nat.reduceLT, rackV])
      all_goals first
        | (have hq : (rackB s) (s.racks)[k] = false := by simp [rackB, ← btw_idx, *]
           simp only [roomsB, all_at hlt hq, Bool.and_false, Bool.false_and]; done)
        | (have hq : (rackB s) (s.racks)[k] = true := by simp [rackB, ← btw_idx, *]
           refine next_k hk hlt ?_ FR
           (repeat' first
    | with_reducible first | exact ⟨⟩ | (refine gB ?_; intros) | refine gT ?_ ?_
    | refine gs ?_
    | simp (maxDischargeDepth := 3) only [↓X, ↓Y, ↓Q, S1, ↓reduceIte, Nat.reduceEqDiff, Nat.reduceAdd, Int.reduceLT, Int.reduceLE, Int.reduceNeg, Int.reduceBEq, Int.reduceBNe, Int.reduceEq, Nat.reduceLeDiff, Nat.reduceMul, Nat.reduceLT, *, all_take hlt, hp, hq]
    | simp (singlePass := true) (maxDischargeDepth := 99) only [*, S2, Nat.reduceLT, all_take hlt, hp, hq]))
    · rintro g wk _ _ _ ⟨hi, hf, hp⟩
      simp (maxDischargeDepth := 3) only [U, ↓reduceIte, Nat.reduceEqDiff, *] at hf
      rw [take_all] at hp
      (repeat' first
    | with_reducible first | exact ⟨⟩ | (refine gB ?_; intros) | refine gT ?_ ?_
    | refine gs ?_
    | refine sx ?_)
      refine loop_k (s.links.length) (fun g0 k g _ => g 6 = .int .i64 k ∧ (g 1 = g0 1) ∧ (s.links.take k).all (linkB s) = true) KR (hs.k.max_) ?_ ?_ ?_
      · (repeat' first
    | with_reducible first | exact ⟨⟩ | (refine gB ?_; intros) | refine gT ?_ ?_
    | refine gs ?_
    | refine sxRef122 ?_)
      · rintro k m g wk hk hlt _ _ _ hw ⟨hi, hf, hp⟩
        simp (maxDischargeDepth := 3) only [U, ↓reduceIte, Nat.reduceEqDiff, *] at hf
        have w3 : IntKind.i64.wrap (s.switches - 1) = s.switches - 1 := by
          have : btw s.switches 1 8 = true := by assumption
          simp [btw] at this
          rw [wrap_i64_id] <;> omega
        (repeat' first
    | with_reducible first | exact ⟨⟩ | (refine gB ?_; intros) | refine gT ?_ ?_
    | refine gs ?_
    | ((with_reducible refine at_f 100 ?_); refine ret_k (ref12within) fun _ _ _ => ?_)
    | simp (maxDischargeDepth := 3) only [↓X, ↓Y, ↓Q, S1, ↓reduceIte, Nat.reduceEqDiff, Nat.reduceAdd, Int.reduceLT, Int.reduceLE, Int.reduceNeg, Int.reduceBEq, Int.reduceBNe, Int.reduceEq, Nat.reduceLeDiff, Nat.reduceMul, Nat.reduceLT, *, linkV]
    | simp (singlePass := true) (maxDischargeDepth := 99) only [*, S2, Nat.reduceLT, linkV])
        all_goals first
          | (have hq : (linkB s) (s.links)[k] = false := by simp [linkB, num, ← btw_idx, *]
             simp only [roomsB, all_at hlt hq, Bool.and_false, Bool.false_and]; done)
          | (have hq : (linkB s) (s.links)[k] = true := by simp [linkB, num, ← btw_idx, *]
             refine next_k hk hlt ?_ FR
             (repeat' first
    | with_reducible first | exact ⟨⟩ | (refine gB ?_; intros) | refine gT ?_ ?_
    | refine gs ?_
    | simp (maxDischargeDepth := 3) only [↓X, ↓Y, ↓Q, S1, ↓reduceIte, Nat.reduceEqDiff, Nat.reduceAdd, Int.reduceLT, Int.reduceLE, Int.reduceNeg, Int.reduceBEq, Int.reduceBNe, Int.reduceEq, Nat.reduceLeDiff, Nat.reduceMul, Nat.reduceLT, *, all_take hlt, hp, hq]
    | simp (singlePass := true) (maxDischargeDepth := 99) only [*, S2, Nat.reduceLT, all_take hlt, hp, hq]))
      · rintro g wk _ _ _ ⟨hi, hf, hp⟩
        simp (maxDischargeDepth := 3) only [U, ↓reduceIte, Nat.reduceEqDiff, *] at hf
        rw [take_all] at hp
        (repeat' first
    | with_reducible first | exact ⟨⟩ | (refine gB ?_; intros) | refine gT ?_ ?_
    | refine gs ?_
    | refine sx ?_)
        have h16 : (s.links.length : Int) ≤ 16 := by
          have : ¬ (16 : Int) < (s.links.length : Int) := by assumption
          omega
        simp_all [roomsB]
theorem ref12Valid : Ret Tryz.prog 59 #[.agg (siteC u s).toArray] w (.bool (siteB s)) := by
  have hn : Now w := trivial
  have hx : Ext w w := Ext.refl w
  have hs' := hs.sk hB
  have hS := hs'.2.2.2.2.2.2
  have w1 := wrap_pred hs.r.max_
  have e : siteB s = (powerB s && roomsB s && btw s.hosts.length 1 16 && s.hosts.all (hostB s)) := by
    rw [Bool.eq_iff_iff]
    simp only [siteB, sizesB, powerB, roomsB, Bool.and_eq_true]
    constructor
    · rintro ⟨⟨⟨⟨⟨⟨⟨⟨⟨⟨⟨⟨h1, h2⟩, h3⟩, h4⟩, h5⟩, h6⟩, h7⟩, h8⟩, h9⟩, h10⟩, h11⟩, h12⟩, h13⟩
      exact ⟨⟨⟨⟨⟨⟨h1, h2⟩, h8⟩, h9⟩, ⟨⟨⟨⟨⟨h3, h4⟩, h5⟩, h6⟩, h10⟩, h11⟩, h12⟩, h7⟩, h13⟩
    · rintro ⟨⟨⟨⟨⟨⟨h1, h2⟩, h8⟩, h9⟩, ⟨⟨⟨⟨⟨h3, h4⟩, h5⟩, h6⟩, h10⟩, h11⟩, h12⟩, h7⟩, h13⟩
      exact ⟨⟨⟨⟨⟨⟨⟨⟨⟨⟨⟨⟨h1, h2⟩, h3⟩, h4⟩, h5⟩, h6⟩, h7⟩, h8⟩, h9⟩, h10⟩, h11⟩, h12⟩, h13⟩
  rw [e]
  clear e
  (refine callsV_of Tryz.func59 rfl KR KR ?_; rw [Tryz.results59])
  (repeat' first
    | with_reducible first | exact ⟨⟩ | (refine gB ?_; intros) | refine gT ?_ ?_
    | refine gs ?_
    | ((with_reducible refine at_f 100 ?_); refine ret_k (ref12within) fun _ _ _ => ?_)
    | ((with_reducible refine at_f 98 ?_); refine ret_k (ref12power (B := B) FR (hS _ FR)) fun _ _ _ => ?_)
    | ((with_reducible refine at_f 99 ?_); refine ret_k (ref12rooms (B := B) FR (hS _ FR)) fun _ _ _ => ?_)
    | refine sxRef121 ?_)
  all_goals (try (simp [*]; done))
  refine loop_k (s.hosts.length) (fun g0 k g _ => g 3 = .int .i64 k ∧ (g 1 = g0 1) ∧ (s.hosts.take k).all (hostB s) = true) KR (hs.h.max_) ?_ ?_ ?_
  · (repeat' first
    | with_reducible first | exact ⟨⟩ | (refine gB ?_; intros) | refine gT ?_ ?_
    | refine gs ?_
    | refine sxRef122 ?_)
  · rintro k m g wk hk hlt _ _ _ hw ⟨hi, hf, hp⟩
    simp (maxDischargeDepth := 3) only [U, ↓reduceIte, Nat.reduceEqDiff, *] at hf
    (repeat' first
    | with_reducible first | exact ⟨⟩ | (refine gB ?_; intros) | refine gT ?_ ?_
    | refine gs ?_
    | ((with_reducible refine at_f 100 ?_); refine ret_k (ref12within) fun _ _ _ => ?_)
    | simp (maxDischargeDepth := 3) only [↓X, ↓Y, ↓Q, S1, ↓reduceIte, Nat.reduceEqDiff, Nat.reduceAdd, Int.reduceLT, Int.reduceLE, Int.reduceNeg, Int.reduceBEq, Int.reduceBNe, Int.reduceEq, Nat.reduceLeDiff, Nat.reduceMul, Nat.reduceLT, *, hostV]
    | simp (singlePass := true) (maxDischargeDepth := 99) only [*, S2, Nat.reduceLT, hostV])
    all_goals first
      | (have hq : (hostB s) (s.hosts)[k] = false := by simp [hostB, ← btw_idx, *]
         simp only [Bool.and_true, all_at hlt hq, Bool.and_false, Bool.false_and]; done)
      | (have hq : (hostB s) (s.hosts)[k] = true := by simp [hostB, ← btw_idx, *]
         refine next_k hk hlt ?_ FR
         (repeat' first
    | with_reducible first | exact ⟨⟩ | (refine gB ?_; intros) | refine gT ?_ ?_
    | refine gs ?_
    | simp (maxDischargeDepth := 3) only [↓X, ↓Y, ↓Q, S1, ↓reduceIte, Nat.reduceEqDiff, Nat.reduceAdd, Int.reduceLT, Int.reduceLE, Int.reduceNeg, Int.reduceBEq, Int.reduceBNe, Int.reduceEq, Nat.reduceLeDiff, Nat.reduceMul, Nat.reduceLT, *, all_take hlt, hp, hq]
    | simp (singlePass := true) (maxDischargeDepth := 99) only [*, S2, Nat.reduceLT, all_take hlt, hp, hq]))
  · rintro g wk _ _ _ ⟨hi, hf, hp⟩
    simp (maxDischargeDepth := 3) only [U, ↓reduceIte, Nat.reduceEqDiff, *] at hf
    rw [take_all] at hp
    (repeat' first
    | with_reducible first | exact ⟨⟩ | (refine gB ?_; intros) | refine gT ?_ ?_
    | refine gs ?_
    | refine sx ?_)
    all_goals simp [*]
end
end Go.Proofs.YtopfddchckdhgaaGreat
