
/- The layer schedule: the rules for each step, possible, last, ready. -/
import Derived.Test.YtopfddchckdhgaaGreatFrC23
import Derived.Test.YtopfddchckdhgaaGreatRow
import Derived.Test.YtopfddchckdhgaaGreatEvery23
namespace Go.Proofs.YtopfddchckdhgaaGreat
set_option linter.unusedSimpArgs false
set_option linter.unusedVariables false
open Go Go.RowKit
set_option maxRecDepth 100000
set_option linter.unusedSectionVars false
set_option maxHeartbeats 2000000
def ruleF (fb : Nat) : Nat → Value
  | 0 => .func (.func 66) #[.pointer (some ⟨fb, 0, none⟩)] #[]
  | 1 => .func (.func 67) #[.pointer (some ⟨fb, 0, none⟩)] #[]
  | 2 => .func (.func 68) #[.pointer (some ⟨fb, 0, none⟩)] #[]
  | _ => .func (.func 69) #[.pointer (some ⟨fb, 0, none⟩)] #[]
def ruleC (fb k : Nat) : List Value := [.int .u8 ((k : Int) + 1), ruleF fb k]
def ruleV (fb k : Nat) : Value := .agg (ruleC fb k).toArray
theorem ruleF_one (fb k : Nat) : (ruleF fb k).oneCell' = true := by unfold ruleF; split <;> rfl
theorem ruleF_cells (fb k : Nat) : cellsL (ruleF fb k) = [ruleF fb k] := cellsL_one (ruleF_one fb k)
section
variable {w w' : World} {fb : Nat} {f : FrV} {bv : Value} {s : SiteD} {p : PlanD} {x : TermsD} {b : List Int}
theorem rule_call (hF : Fit s p x) (hb : BegD p b) (h : FrR w fb f bv s p x b) {i k : Nat} (hi : i < p.steps.length) (hk : k < 4) {K : Value → World → Prop} (hK : ∀ w', Now w' → St w w' → K (.tuple #[intV (ruleS s p x b k i).1, .bool (ruleS s p x b k i).2]) w') : callX Tryz.prog (ruleF fb k) [.int .i64 i] w K := by
  have c0 : callable Tryz.prog 66 = true := by kernel_rfl
  have c1 : callable Tryz.prog 67 = true := by kernel_rfl
  have c2 : callable Tryz.prog 68 = true := by kernel_rfl
  have c3 : callable Tryz.prog 69 = true := by kernel_rfl
  rcases (by omega : k = 0 ∨ k = 1 ∨ k = 2 ∨ k = 3) with rfl | rfl | rfl | rfl
  · simp only [callX, ruleF, c0, callY]
    exact ret_k (frInTime hF hb h hi) hK
  · simp only [callX, ruleF, c1, callY]
    exact ret_k (frOrdered hF hb h hi) hK
  · simp only [callX, ruleF, c2, callY]
    exact ret_k (frInWindow hF hb h hi) hK
  · simp only [callX, ruleF, c3, callY]
    exact ret_k (frApproved hF hb h hi) hK
theorem frRules : CallsV Tryz.prog 33 #[.pointer (some ⟨fb, 0, none⟩)] w fun r w' => Ext w w' ∧ Own w' w.heap.size 100 2 r ((List.range 4).map (ruleC fb)) := by
  have hn : Now w := trivial
  have hx : Ext w w := Ext.refl w
  (refine callsV_of Tryz.func33 rfl KR KR ?_; rw [Tryz.results33])
  (repeat' first
    | with_reducible first | exact ⟨⟩ | (refine gB ?_; intros) | refine gT ?_ ?_
    | refine gs ?_
    | refine sx ?_)
  rename_i b1 w1 n1 k1 s1 q1
  exact Own.ofBlk (cs := (List.range 4).map (ruleC fb)) (k1.2.1 _ FR) (fun c hc => by obtain ⟨k, _, rfl⟩ := List.mem_map.1 hc; rfl) (q1.2.1 _ (Nat.le_refl _)) (by simp)
/-- All rules, and no crowd. -/
def possB (s : SiteD) (p : PlanD) (x : TermsD) (b : List Int) (i : Nat) : Bool := (List.range 4).all (fun k => (ruleS s p x b k i).2) && !(crowdS s p x b).isSome
theorem frPossible (hF : Fit s p x) (hb : BegD p b) (h : FrR w fb f bv s p x b) {i : Nat} (hi : i < p.steps.length) : Ret Tryz.prog 58 #[.pointer (some ⟨fb, 0, none⟩), .int .i64 i] w (.bool (possB s p x b i)) := by
  have hn : Now w := trivial
  have hx : Ext w w := Ext.refl w
  have hrc := fun w' (h2 : Ext w w') k (hk : k < 4) K hK => rule_call hF hb (h.ext h2) (K := K) hi hk hK
  replace hrc : Hid _ := hrc
  have hcr := fun w' (h2 : Ext w w') => frCrowd hF hb (h.ext h2)
  replace hcr : Hid _ := hcr
  clear hF hb h
  unfold possB
  obtain ⟨R, hR⟩ : ∃ R : Nat → Bool, R = fun k => (ruleS s p x b k i).2 := ⟨_, rfl⟩
  have hRk : ∀ k, R k = (ruleS s p x b k i).2 := fun k => by rw [hR]
  replace hRk : Hid _ := hRk
  rw [← hR]
  clear hR
  (refine callsV_of Tryz.func58 rfl KR KR ?_; rw [Tryz.results58])
  (repeat' first
    | with_reducible first | exact ⟨⟩ | (refine gB ?_; intros) | refine gT ?_ ?_
    | refine gs ?_
    | refine sx ?_)
  refine call_k (frRules (fb := fb)) ?_
  rintro v w1 n1 s1 hO
  have e1 : Bl w1.heap.size w1 w1 := Bl.refl (Nat.le_refl _)
  obtain ⟨L, hL⟩ : ∃ L : List Nat, L = List.range 4 := ⟨_, rfl⟩
  have hLl : Hid (L.length = 4) := by rw [hL]; exact List.length_range
  have hLk : Hid (∀ k (h : k < L.length), L[k] = k) := fun k h => by subst hL; exact List.getElem_range _
  rw [← hL] at hO
  have hS : SlK w1 w1.heap.size 2 (some 2) v L (ruleV fb) := (hO.slN (f := ruleC fb)).k (Nat.le_refl _)
  have r1 := Ext.refl w1
  have hx1 : Ext w w1 := FR
  have hmax : L.length ≤ 9223372036854775807 := by rw [hLl.out]; decide
  clear hO hL
  (repeat' first
    | with_reducible first | exact ⟨⟩ | (refine gB ?_; intros) | refine gT ?_ ?_
    | refine gs ?_
    | refine sx ?_)
  refine loop_k (L.length) (fun g0 k g _ => g 15 = .int .i64 k ∧ (g 0 = g0 0 ∧ g 1 = g0 1 ∧ g 13 = g0 13 ∧ g 14 = g0 14) ∧ Hid (∀ j, j < k → R j = true)) KR (hmax) ?_ ?_ ?_
  · (repeat' first
    | with_reducible first | exact ⟨⟩ | (refine gB ?_; intros) | refine gT ?_ ?_
    | refine gs ?_
    | simp (maxDischargeDepth := 3) only [↓X, ↓Y, ↓Q, S1, ↓reduceIte, Nat.reduceEqDiff, Nat.reduceAdd, Int.reduceLT, Int.reduceLE, Int.reduceNeg, Int.reduceBEq, Int.reduceBNe, Int.reduceEq, Nat.reduceLeDiff, Nat.reduceMul, Nat.reduceLT, *, List.take_zero, List.all_nil, List.any_nil]
    | simp (singlePass := true) (maxDischargeDepth := 99) only [*, S2, Nat.reduceLT, List.take_zero, List.all_nil, List.any_nil])
    exact fun j h => absurd h (by omega)
  · rintro k m g wk hk hlt _ _ _ hw ⟨hi, hf, hp⟩
    simp (maxDischargeDepth := 3) only [U, ↓reduceIte, Nat.reduceEqDiff, *] at hf
    have hrk := hRk.out k
    have hLe := hLk.out k hlt
    have hk4 : k < 4 := by rw [← hLl.out]; exact hlt
    have hxk : Ext w1 wk := FR
    have h1c := ruleF_one fb k
    have h2c := ruleF_cells fb k
    (repeat' first
    | with_reducible first | exact ⟨⟩ | (refine gB ?_; intros) | refine gT ?_ ?_
    | refine gs ?_
    | simp (maxDischargeDepth := 3) only [↓X, ↓Y, ↓Q, S1, ↓reduceIte, Nat.reduceEqDiff, Nat.reduceAdd, Int.reduceLT, Int.reduceLE, Int.reduceNeg, Int.reduceBEq, Int.reduceBNe, Int.reduceEq, Nat.reduceLeDiff, Nat.reduceMul, Nat.reduceLT, *, ruleV, ruleC]
    | simp (singlePass := true) (maxDischargeDepth := 99) only [*, S2, Nat.reduceLT, ruleV, ruleC])
    rename_i b5 w5 n5 k5 s5 q5 w6 n6 k6 s6
    have hx16 : Ext w1 w6 := FR
    have hx6 : Ext w w6 := hx1.trans hx16
    refine hrc.out w6 hx6 k hk4 _ fun w7 n7 s7 => ?_
    rw [← hrk]
    cases hq : R k
    · have e : (List.range 4).all R = false := List.all_eq_false.2 ⟨k, List.mem_range.2 hk4, by simp [hq]⟩
      rw [e]
      (repeat' first
    | with_reducible first | exact ⟨⟩ | (refine gB ?_; intros) | refine gT ?_ ?_
    | refine gs ?_
    | refine sx ?_)
    · (repeat' first
    | with_reducible first | exact ⟨⟩ | (refine gB ?_; intros) | refine gT ?_ ?_
    | refine gs ?_
    | refine sx ?_)
      refine next_k hk hlt ?_ FR
      (repeat' first
    | with_reducible first | exact ⟨⟩ | (refine gB ?_; intros) | refine gT ?_ ?_
    | refine gs ?_
    | refine sx ?_)
      intro j hj
      rcases Nat.lt_or_eq_of_le (Nat.le_of_lt_succ hj) with h1 | rfl
      · exact hp.out j h1
      · exact hq
  · rintro g wk _ _ _ ⟨hi, hf, hp⟩
    simp (maxDischargeDepth := 3) only [U, ↓reduceIte, Nat.reduceEqDiff, *] at hf
    have e : (List.range 4).all R = true := List.all_eq_true.2 fun j hj => hp.out j (by rw [hLl.out]; exact List.mem_range.1 hj)
    rw [e]
    have hxk : Ext w1 wk := FR
    (repeat' first
    | with_reducible first | exact ⟨⟩ | (refine gB ?_; intros) | refine gT ?_ ?_
    | refine gs ?_
    | refine sx ?_)
    have hx2 : Ext w wk := hx1.trans hxk
    refine call_k (hcr.out wk hx2) ?_
    rintro _ w2 n2 s2 ⟨u, v, rfl, _⟩
    (repeat' first
    | with_reducible first | exact ⟨⟩ | (refine gB ?_; intros) | refine gT ?_ ?_
    | refine gs ?_
    | refine sx ?_)
theorem frLast (hF : Fit s p x) (hb : BegD p b) (h : FrR w fb f bv s p x b) : Ret Tryz.prog 25 #[.pointer (some ⟨fb, 0, none⟩)] w (intV (Sch.stop (scS s p x) b)) := by
  have hn : Now w := trivial
  have hx : Ext w w := Ext.refl w
  have hk := h.k
  have hfk : Hid (∀ w' (_ : Ext w w'), FrK w' fb f bv s p x b) := fun w' (h2 : Ext w w') => (h.ext h2).k
  have he := fun w' (h2 : Ext w w') j (hj : j < p.steps.length) => frEnd hF hb (h.ext h2) hj
  replace he : Hid _ := he
  have hmax : b.length ≤ 9223372036854775807 := h.beg.max_
  have hbl : Hid (b.length = p.steps.length) := hb.len
  obtain ⟨G, hG⟩ : ∃ G : Nat → Int, G = fun k => (List.range k).foldl (fun m i => max m (Sch.at_ b i + takeS p x i)) x.first := ⟨_, rfl⟩
  have hG0 : G 0 = x.first := by rw [hG]; rfl
  have hGk : Hid (∀ k, G (k + 1) = max (G k) (Sch.at_ b k + takeS p x k)) := fun k => by rw [hG]; simp only [List.range_succ, List.foldl_append, List.foldl_cons, List.foldl_nil]
  have hGN : Hid (Sch.stop (scS s p x) b = G b.length) := by
    have := hb.len
    rw [hG]
    show (List.range p.steps.length).foldl _ _ = _
    rw [← this]
    rfl
  clear hF hb h hG
  (refine callsV_of Tryz.func25 rfl KR KR ?_; rw [Tryz.results25])
  (repeat' first
    | with_reducible first | exact ⟨⟩ | (refine gB ?_; intros) | refine gT ?_ ?_
    | refine gs ?_
    | refine sx ?_)
  refine loop_k (b.length) (fun g0 k g _ => g 15 = .int .i64 k ∧ (g 0 = g0 0 ∧ g 14 = g0 14) ∧ g 3 = .int .i64 (G k)) KR (hmax) ?_ ?_ ?_
  · (repeat' first
    | with_reducible first | exact ⟨⟩ | (refine gB ?_; intros) | refine gT ?_ ?_
    | refine gs ?_
    | simp (maxDischargeDepth := 3) only [↓X, ↓Y, ↓Q, S1, ↓reduceIte, Nat.reduceEqDiff, Nat.reduceAdd, Int.reduceLT, Int.reduceLE, Int.reduceNeg, Int.reduceBEq, Int.reduceBNe, Int.reduceEq, Nat.reduceLeDiff, Nat.reduceMul, Nat.reduceLT, *, hG0]
    | simp (singlePass := true) (maxDischargeDepth := 99) only [*, S2, Nat.reduceLT, hG0])
  · rintro k m g wk hk hlt _ _ _ hw ⟨hi, hf, hp⟩
    simp (maxDischargeDepth := 3) only [U, ↓reduceIte, Nat.reduceEqDiff, *] at hf
    have hg := hGk.out k
    have he' := fun w' (h2 : Ext w w') => he.out w' h2 k (by rw [← hbl.out]; exact hlt)
    (repeat' first
    | with_reducible first | exact ⟨⟩ | (refine gB ?_; intros) | refine gT ?_ ?_
    | refine gs ?_
    | ((with_reducible refine at_f 55 ?_); refine ret_k (he' _ FR) fun _ _ _ => ?_)
    | refine sx ?_)
    refine next_k hk hlt ?_ FR
    (repeat' first
    | with_reducible first | exact ⟨⟩ | (refine gB ?_; intros) | refine gT ?_ ?_
    | refine gs ?_
    | simp (maxDischargeDepth := 3) only [↓X, ↓Y, ↓Q, S1, ↓reduceIte, Nat.reduceEqDiff, Nat.reduceAdd, Int.reduceLT, Int.reduceLE, Int.reduceNeg, Int.reduceBEq, Int.reduceBNe, Int.reduceEq, Nat.reduceLeDiff, Nat.reduceMul, Nat.reduceLT, *, hg, max_ite]
    | simp (singlePass := true) (maxDischargeDepth := 99) only [*, S2, Nat.reduceLT, hg, max_ite])
  · rintro g wk _ _ _ ⟨hi, hf, hp⟩
    simp (maxDischargeDepth := 3) only [U, ↓reduceIte, Nat.reduceEqDiff, *] at hf
    rw [hGN.out]
    (repeat' first
    | with_reducible first | exact ⟨⟩ | (refine gB ?_; intros) | refine gT ?_ ?_
    | refine gs ?_
    | refine sx ?_)
theorem frReady1 (h : FrR w fb f bv s p x b) {b1 : Nat} (h1 : Blk w b1 83 [.pointer (some ⟨fb, 0, none⟩)]) {j : Nat} (hj : j < b.length) : Ret Tryz.prog 53 #[.int .i64 j, .pointer (some ⟨b1, 0, none⟩)] w (.bool (!(Sch.at_ b j == -1))) := by
  have hn : Now w := trivial
  have hx : Ext w w := Ext.refl w
  have hk := h.k
  have k1 := h1.bk
  rw [at_at hj]
  clear h h1
  (refine callsV_of Tryz.func53 rfl KR KR ?_; rw [Tryz.results53])
  (repeat' first
    | with_reducible first | exact ⟨⟩ | (refine gB ?_; intros) | refine gT ?_ ?_
    | refine gs ?_
    | refine sx ?_)
  all_goals rfl
theorem frReady (hF : Fit s p x) (hb : BegD p b) (h : FrR w fb f bv s p x b) {i : Nat} (hi : i < p.steps.length) : Ret Tryz.prog 23 #[.pointer (some ⟨fb, 0, none⟩), .int .i64 i] w (.bool (Sch.ready (scS s p x) b i)) := by
  have hn : Now w := trivial
  have hx : Ext w w := Ext.refl w
  have hk := h.k
  have hlb : i < b.length := by rw [hb.len]; exact hi
  have hia : i < p.after.length := by rw [hF.len]; exact hi
  obtain ⟨u, hu, hU⟩ := hk.2.2.2.2.2.2.2.2.2.1 i hia
  have hcal : callable Tryz.prog 53 = true := by kernel_rfl
  have hev := fun w' (h2 : Ext w w') b1 (k1 : Blk w' b1 83 [.pointer (some ⟨fb, 0, none⟩)]) => every_int (w := w') (B := w'.heap.size) (v := u) (l := afterS p i) (q := fun j => !(Sch.at_ b j.toNat == -1)) (caps := [.pointer (some ⟨b1, 0, none⟩)]) (Nat.le_refl _) (((hU.2.2.2.2.2.2.1 w (Bl.refl (Nat.le_refl _))).ext h2 (Nat.le_refl _)).more h2.size) hcal fun j hj w'' hx => by
    obtain ⟨n, rfl⟩ : ∃ n : Nat, j = (n : Int) := ⟨j.toNat, by have := hF.places i hi j hj; omega⟩
    exact frReady1 (h.ext (h2.trans hx)) (k1.ext hx) (by have := hF.places i hi n hj; rw [hb.len]; omega)
  have e : Sch.ready (scS s p x) b i = ((Sch.at_ b i == -1) && (afterS p i).all fun j => !(Sch.at_ b j.toNat == -1)) := by
    rw [Bool.eq_iff_iff, Sch.ready_iff]
    simp only [Bool.and_eq_true, beq_iff_eq, List.all_eq_true, Bool.not_eq_true', beq_eq_false_iff_ne, ne_eq]
    refine and_congr_right fun _ => ⟨fun h j hj => h j.toNat (List.mem_map.2 ⟨j, hj, rfl⟩), fun h j hj => ?_⟩
    obtain ⟨a, ha, rfl⟩ := List.mem_map.1 hj
    exact h a ha
  rw [e, at_at hlb]
  replace hev : Hid _ := hev
  clear hF h hb e
  (refine callsV_of Tryz.func23 rfl KR KR ?_; rw [Tryz.results23])
  (repeat' first
    | with_reducible first | exact ⟨⟩ | (refine gB ?_; intros) | refine gT ?_ ?_
    | refine gs ?_
    | ((with_reducible refine at_f 30 ?_); refine ret_k (hev.out _ FR _ FR) fun _ _ _ => ?_)
    | refine sx ?_)
  all_goals simp_all
end
end Go.Proofs.YtopfddchckdhgaaGreat
