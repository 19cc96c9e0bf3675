
/- The layer plan: asked, Ideals, Enabled, Sequence. -/
import Derived.Test.YtgickfllblmhpaaGreatDoorPure
namespace Go.Proofs.YtgickfllblmhpaaGreatDoor
set_option linter.unusedSimpArgs false
set_option linter.unusedVariables false
open Go Go.RowKit
set_option maxRecDepth 100000
set_option linter.unusedSectionVars false
set_option maxHeartbeats 1000000
def idealsL (p : PlanD) : List Nat := (List.range (2 ^ p.steps.length)).filter (idealB p)
def askedE (e : Int) (p : PlanD) (x : Int) : Int := if e = 0 then if idealI p x then 0 else 2 else e
section
variable {w : World} {B : Nat} {u : SiteVs} {s : SiteD} {wv sv av : Value} {vs : List Value} {l : List SrvV} {p : PlanD} (hT : TabW w) (hB : B ≤ w.heap.size) (hs : SiteR w B u s) (hl : WishR w B wv l) (hp : PlanR w B sv av vs p)
include hT hB hs hl hp
theorem planAsked {x e : Int} (he : planErr s (l.map (·.x)) p = e) : Ret Tryz.prog 30 #[.agg (siteC u s).toArray, .agg #[wv], .agg #[sv, av], intV x] w (intV (askedE e p x)) := by
  have hv := fun w' hx => planValid (w := w') (hT.ext hx) (Nat.le_trans hB (Ext.size hx)) (hs.ext hx hB) (hl.ext hx hB) (hp.ext hx hB)
  have hok := fun h => (planErr_ok (s := s) (wl := l.map (·.x)) (p := p) h).1
  rw [he] at hv hok
  (refine callsV_of Tryz.func30 rfl (by kernel_rfl) (by kernel_rfl) ?_; rw [Tryz.results30])
  simp only [↓X, ↓Y, ↓Q, S0, ↓reduceIte, Nat.reduceEqDiff, Nat.reduceAdd, Int.reduceLT, Int.reduceLE, Int.reduceNeg, now w, siteC, intV]
  refine alloc_intro fun b1 w1 hb1 hx1 _ => ?_
  simp only [↓X, ↓Y, ↓Q, S0, ↓reduceIte, Nat.reduceEqDiff, Nat.reduceAdd, Int.reduceLT, Int.reduceLE, Int.reduceNeg, now w1]
  refine alloc_intro fun b2 w2 hb2 hx2 _ => ?_
  simp only [↓X, ↓Y, ↓Q, S0, ↓reduceIte, Nat.reduceEqDiff, Nat.reduceAdd, Int.reduceLT, Int.reduceLE, Int.reduceNeg, now w2]
  refine alloc_intro fun b3 w3 hb3 hx3 _ => ?_
  have hx := hx1.trans (hx2.trans hx3)
  simp only [↓X, ↓Y, ↓Q, S0, ↓reduceIte, Nat.reduceEqDiff, Nat.reduceAdd, Int.reduceLT, Int.reduceLE, Int.reduceNeg, now w3, (hb1.ext (hx2.trans hx3)).cell, (hb2.ext hx3).cell, hb3.cell]
  refine ret_bind' (Ext.refl w3) (hv w3 hx) fun w4 hx4 => ?_
  cases c1 : e != 0
  · have e0 : e = 0 := by simpa using c1
    simp only [↓X, ↓Y, ↓Q, S0, ↓reduceIte, Nat.reduceEqDiff, Nat.reduceAdd, Int.reduceLT, Int.reduceLE, Int.reduceNeg, now w4, intV, c1, (hb3.ext hx4).cell]
    refine ret_bind' hx4 (planIdeal (Nat.le_trans hB (hx.trans hx4).size) (hp.ext (hx.trans hx4) hB) (hok e0)) fun w5 hx5 => ?_
    cases c2 : idealI p x
    · simp only [↓X, ↓Y, ↓Q, S0, ↓reduceIte, Nat.reduceEqDiff, Nat.reduceAdd, Int.reduceLT, Int.reduceLE, Int.reduceNeg, now w5]
      exact ⟨by simp [askedE, e0, c2], hx.trans hx5⟩
    · simp only [↓X, ↓Y, ↓Q, S0, ↓reduceIte, Nat.reduceEqDiff, Nat.reduceAdd, Int.reduceLT, Int.reduceLE, Int.reduceNeg, now w5]
      exact ⟨by simp [askedE, e0, c2], hx.trans hx5⟩
  · simp only [↓X, ↓Y, ↓Q, S0, ↓reduceIte, Nat.reduceEqDiff, Nat.reduceAdd, Int.reduceLT, Int.reduceLE, Int.reduceNeg, now w4, intV, c1]
    have e0 : e ≠ 0 := by simpa using c1
    exact ⟨by simp [askedE, e0], hx.trans hx4⟩
theorem planEnabledX {x e : Int} (he : planErr s (l.map (·.x)) p = e) : CallsV Tryz.prog 11 #[.agg (siteC u s).toArray, .agg #[wv], .agg #[sv, av], intV x] w fun r w' => Ext w w' ∧ ∃ v, r = .tuple #[v, intV (askedE e p x)] ∧
    Own w' w.heap.size 3 1 v ((if askedE e p x = 0 then enabledL p x.toNat else []).map natC) := by
  have hv := fun w' hx => planAsked (w := w') (x := x) (hT.ext hx) (Nat.le_trans hB (Ext.size hx)) (hs.ext hx hB) (hl.ext hx hB) (hp.ext hx hB) he
  have hok := fun h => (planErr_ok (s := s) (wl := l.map (·.x)) (p := p) h).1
  rw [he] at hok
  (refine callsV_of Tryz.func11 rfl (by kernel_rfl) (by kernel_rfl) ?_; rw [Tryz.results11])
  simp only [↓X, ↓Y, ↓Q, S0, ↓reduceIte, Nat.reduceEqDiff, Nat.reduceAdd, Int.reduceLT, Int.reduceLE, Int.reduceNeg, now w, siteC]
  refine alloc_intro fun b1 w1 hb1 hx1 _ => ?_
  simp only [↓X, ↓Y, ↓Q, S0, ↓reduceIte, Nat.reduceEqDiff, Nat.reduceAdd, Int.reduceLT, Int.reduceLE, Int.reduceNeg, now w1]
  refine alloc_intro fun b2 w2 hb2 hx2 _ => ?_
  simp only [↓X, ↓Y, ↓Q, S0, ↓reduceIte, Nat.reduceEqDiff, Nat.reduceAdd, Int.reduceLT, Int.reduceLE, Int.reduceNeg, now w2]
  refine alloc_intro fun b3 w3 hb3 hx3 _ => ?_
  have hx := hx1.trans (hx2.trans hx3)
  simp only [↓X, ↓Y, ↓Q, S0, ↓reduceIte, Nat.reduceEqDiff, Nat.reduceAdd, Int.reduceLT, Int.reduceLE, Int.reduceNeg, now w3, (hb1.ext (hx2.trans hx3)).cell, (hb2.ext hx3).cell, hb3.cell]
  refine ret_bind' (Ext.refl w3) (hv w3 hx) fun w4 hx4 => ?_
  cases c1 : askedE e p x != 0
  · have e0 : askedE e p x = 0 := by simpa using c1
    have he0 : e = 0 := by
      unfold askedE at e0
      split at e0
      · assumption
      · assumption
    have hid : idealI p x = true := by
      unfold askedE at e0
      rw [if_pos he0] at e0
      split at e0
      · assumption
      · cases e0
    have hsh := hok he0
    have hx0 : 0 ≤ x ∧ x.toNat < 2 ^ p.steps.length := by
      simp only [idealI, idealB, Bool.and_eq_true, decide_eq_true_eq] at hid
      exact ⟨hid.1, hid.2.1⟩
    obtain ⟨y, rfl⟩ := Int.eq_ofNat_of_zero_le hx0.1
    have hy : y < 4096 := Nat.lt_of_lt_of_le hx0.2 (two_pow_le hsh.small)
    simp only [↓X, ↓Y, ↓Q, S0, ↓reduceIte, Nat.reduceEqDiff, Nat.reduceAdd, Int.reduceLT, Int.reduceLE, Int.reduceNeg, now w4, intV, c1, (hb3.ext hx4).cell]
    have hx04 := hx.trans hx4
    refine CallsV.mono (planEnabled (Nat.le_trans hB hx04.size) (hp.ext hx04 hB) hsh hy) fun v w5 ⟨hx5, hown⟩ => ?_
    simp only [↓X, ↓Y, ↓Q, S0, ↓reduceIte, Nat.reduceEqDiff, Nat.reduceAdd, Int.reduceLT, Int.reduceLE, Int.reduceNeg, now w5]
    rw [e0]
    exact ⟨hx04.trans hx5, v, rfl, by simpa using hown.more hx04.size⟩
  · simp only [↓X, ↓Y, ↓Q, S0, ↓reduceIte, Nat.reduceEqDiff, Nat.reduceAdd, Int.reduceLT, Int.reduceLE, Int.reduceNeg, now w4, intV, c1]
    have e0 : askedE e p x ≠ 0 := by simpa using c1
    rw [if_neg e0]
    exact ⟨hx.trans hx4, _, rfl, Own.nil _ _ _ _⟩
end
end Go.Proofs.YtgickfllblmhpaaGreatDoor
