
/- ScheduleKnown: what stays while the law runs, and the calls at its data. -/
import Derived.Test.YtopfddchckdhgaaGreatKnU23
namespace Go.Proofs.YtopfddchckdhgaaGreat
set_option linter.unusedSimpArgs false
set_option linter.unusedVariables false
open Go Go.RowKit
set_option maxRecDepth 100000
set_option linter.unusedSectionVars false
set_option maxHeartbeats 2000000
section
/-- What stays while the law runs: the house, the plan, the timetables and what is wanted. -/
structure KnC (c0 c1 c2 c5 : Nat) (u : Value) (p1 p4 bh bp e0 e1 e2 e3 e4 e5 e6 eb ee ew : Nat) (w : World) : Prop where
  h : HouV w (.agg (siteW c0 c1 c2 c5 u).toArray) 2
  p : TwoV w (.agg #[.slice (some ⟨p1, 0, none⟩) 4 4, .slice (some ⟨p4, 0, none⟩) 4 4])
  st : Blk w p1 71 stepsC4
  kh : Blk w bh 29 [.slice (some ⟨c0, 0, none⟩) 1 1, .slice (some ⟨c1, 0, none⟩) 1 1, .slice (some ⟨c2, 0, none⟩) 1 1, .slice (some ⟨c5, 0, none⟩) 2 2, .int .i64 1, .slice none 0 0, u]
  kp : Blk w bp 33 [.slice (some ⟨p1, 0, none⟩) 4 4, .slice (some ⟨p4, 0, none⟩) 4 4]
  k0 : Blk w e0 3 ((knBeg 0).map intV)
  k1 : Blk w e1 3 ((knBeg 1).map intV)
  k2 : Blk w e2 3 ((knBeg 2).map intV)
  k3 : Blk w e3 3 ((knBeg 3).map intV)
  k4 : Blk w e4 3 ((knBeg 4).map intV)
  k5 : Blk w e5 3 ((knBeg 5).map intV)
  k6 : Blk w e6 3 ((knBeg 6).map intV)
  kb : Blk w eb 39 [.slice (some ⟨e0, 0, none⟩) 4 4, .slice (some ⟨e1, 0, none⟩) 4 4, .slice (some ⟨e2, 0, none⟩) 4 4, .slice (some ⟨e3, 0, none⟩) 4 4, .slice (some ⟨e4, 0, none⟩) 4 4, .slice (some ⟨e5, 0, none⟩) 4 4, .slice (some ⟨e6, 0, none⟩) 4 4]
  ke : Blk w ee 3 [intV 101, intV 4, intV 10, intV 8, intV 9, intV 12, intV 13]
  kw : Blk w ew 60 [.int .u8 1, intV 3, intV 0, .int .u8 2, intV 1, intV 0, .int .u8 3, intV 3, intV 0, .int .u8 4, intV 0, intV 0, .int .u8 5, intV 5, intV 2, .int .u8 6, intV 0, intV 0, .int .u8 0, intV 0, intV 0]
theorem KnC.ext {c0 c1 c2 c5 : Nat} {u : Value} {p1 p4 bh bp e0 e1 e2 e3 e4 e5 e6 eb ee ew : Nat} {w w' : World} (h : KnC c0 c1 c2 c5 u p1 p4 bh bp e0 e1 e2 e3 e4 e5 e6 eb ee ew w) (hx : Ext w w') : KnC c0 c1 c2 c5 u p1 p4 bh bp e0 e1 e2 e3 e4 e5 e6 eb ee ew w' :=
  ⟨h.h.ext hx, h.p.ext hx, h.st.ext hx, h.kh.ext hx, h.kp.ext hx, h.k0.ext hx, h.k1.ext hx, h.k2.ext hx, h.k3.ext hx, h.k4.ext hx, h.k5.ext hx, h.k6.ext hx, h.kb.ext hx, h.ke.ext hx, h.kw.ext hx⟩
/-- The terms at hand: the windows, the durations, the approvals. -/
structure KnX (bx bw c7 B7 : Nat) (av : Value) (w : World) : Prop where
  kx : Blk w bx 41 [.slice (some ⟨bw, 0, none⟩) 3 3, .slice none 0 0, .int .i64 0, .slice none 0 0, .slice (some ⟨c7, 0, none⟩) 8 8, av, .int .i64 0, .int .i64 100]
  kw : Blk w bw 79 [.int .u8 1, .int .i64 1, .int .i64 0, .int .i64 6, .int .u8 3, .int .i64 1, .int .i64 4, .int .i64 9, .int .u8 2, .int .i64 1, .int .i64 9, .int .i64 13]
  k7 : Blk w c7 3 takesV
  o7 : Own w B7 3 1 av ((List.replicate 4 (-1)).map intC)
theorem KnX.ext {bx bw c7 B7 : Nat} {av : Value} {w w' : World} (h : KnX bx bw c7 B7 av w) (hx : Ext w w') : KnX bx bw c7 B7 av w' := ⟨h.kx.ext hx, h.kw.ext hx, h.k7.ext hx, h.o7.ext hx⟩
theorem KnX.terms {bx bw c7 B7 n : Nat} {av : Value} {w : World} (h : KnX bx bw c7 B7 av w) (hn : n < 3) : TermsT w w.heap.size ⟨.slice (some ⟨bw, 0, none⟩) 3 3, .slice none 0 0, .slice none 0 0, .slice (some ⟨c7, 0, none⟩) 8 8, av⟩ (knTerms n) := by
  have e : knTerms n = ⟨[⟨1, 1, 0, 6⟩, ⟨3, 1, 4, 9⟩, ⟨2, 1, 9, 13⟩], [], 0, [0, 2, 2, 2, 2, 2, 2, 2], List.replicate 4 (-1), 0, 100⟩ := by unfold knTerms; rw [if_neg (by omega), if_neg (by omega), if_neg (by omega)]
  rw [e]
  exact ⟨row_of (l := [[.int .u8 1, .int .i64 1, .int .i64 0, .int .i64 6], [.int .u8 3, .int .i64 1, .int .i64 4, .int .i64 9], [.int .u8 2, .int .i64 1, .int .i64 9, .int .i64 13]]) h.kw rfl rfl (by simp) (by simp), Sl.nil _ _ _ _, row_sl (l := [0, 2, 2, 2, 2, 2, 2, 2].map intV) h.k7 rfl (by simp), h.o7.sl1 (f := intV), rfl⟩
theorem KnX.terms3 {bx bw c7 B7 ba bq n : Nat} {av : Value} {w : World} (h : KnX bx bw c7 B7 av w) (ka : Blk w ba 81 [.int .u8 3, .int .i64 0]) (kq : Blk w bq 3 [.int .i64 5, .int .i64 6, .int .i64 (-1), .int .i64 (-1)]) (e : n = 3 := by rfl) : TermsT w w.heap.size ⟨.slice (some ⟨bw, 0, none⟩) 3 3, .slice (some ⟨ba, 0, none⟩) 1 1, .slice none 0 0, .slice (some ⟨c7, 0, none⟩) 8 8, .slice (some ⟨bq, 0, none⟩) 4 4⟩ (knTerms n) := by
  subst e
  exact ⟨row_of (l := [[.int .u8 1, .int .i64 1, .int .i64 0, .int .i64 6], [.int .u8 3, .int .i64 1, .int .i64 4, .int .i64 9], [.int .u8 2, .int .i64 1, .int .i64 9, .int .i64 13]]) h.kw rfl rfl (by simp) (by simp), row_of (l := [[.int .u8 3, .int .i64 0]]) ka rfl rfl (by simp) (by simp), row_sl (l := [0, 2, 2, 2, 2, 2, 2, 2].map intV) h.k7 rfl (by simp), row_sl (l := [5, 6, -1, -1].map intV) kq rfl (by simp), rfl⟩
theorem KnX.terms4 {bx bw c7 B7 ba bq n : Nat} {av : Value} {w : World} (h : KnX bx bw c7 B7 av w) (hn : 4 ≤ n) (ka : Blk w ba 81 [.int .u8 3, .int .i64 0]) (kq : Blk w bq 3 [.int .i64 5, .int .i64 6, .int .i64 (-1), .int .i64 (-1)]) : TermsT w w.heap.size ⟨.slice (some ⟨bw, 0, none⟩) 3 3, .slice (some ⟨ba, 0, none⟩) 1 1, .slice none 0 0, .slice (some ⟨c7, 0, none⟩) 8 8, .slice (some ⟨bq, 0, none⟩) 4 4⟩ (knTerms n) := by
  have e : knTerms n = ⟨[⟨1, 1, 0, 6⟩, ⟨3, 1, 4, 9⟩, ⟨2, 1, 9, 13⟩], [⟨3, 0⟩], 1, [0, 2, 2, 2, 2, 2, 2, 2], [5, 6, -1, -1], 0, 100⟩ := by unfold knTerms; rw [if_pos (by omega), if_pos hn, if_pos (by omega)]
  rw [e]
  have h3 := h.terms3 ka kq
  exact ⟨h3.n, h3.a, h3.t, h3.p, rfl⟩
section
variable {w : World} {B sz e by_ : Nat} {k : Option Nat} {v : Value} {xs : List Value}
theorem elemAt_hi {m i : Nat} (hv : isSl v) : elemAt (cutV sz v 0 m (capN v)) sz i = elemAt v sz i := by
  cases v with
  | slice a n c =>
    cases a with
    | none => simp [cutV, elemAt]
    | some a => by_cases h : c = 0 <;> simp [cutV, elemAt, capN, h, Addr.add]
  | _ => exact hv.elim
theorem Sl.hi (h : Sl w B k sz v xs) {m : Nat} (hm : m ≤ xs.length) : Sl w B k sz (cutV sz v 0 m (capN v)) (xs.take m) := by
  have hs := h.sl
  have hlen := h.len
  have hcap := h.cap
  have hmax := h.max
  have hl : (xs.take m).length = m := by rw [List.length_take]; omega
  have hwf := h.wf
  have hlt := h.lt
  have hcut : SlWf (cutV sz v 0 m (capN v)) ∧ lenN (cutV sz v 0 m (capN v)) = m ∧ capN (cutV sz v 0 m (capN v)) = capN v ∧ blockOf (cutV sz v 0 m (capN v)) = blockOf v := by
    cases v with
    | slice a n c =>
      cases a with
      | none =>
        simp only [SlWf] at hwf
        simp only [lenN] at hlen
        have hm0 : m = 0 := by omega
        simp [cutV, SlWf, lenN, capN, blockOf, hm0]
      | some a => by_cases h0 : c = 0 <;> simp [cutV, SlWf, lenN, capN, blockOf, h0, Addr.add]
    | _ => exact hs.elim
  obtain ⟨c1, c2, c3, c4⟩ := hcut
  refine ⟨c1, by rw [c2, hl], by rw [c2, c3]; omega, by rw [c3]; exact hmax, fun b hb h0 => hlt b (by rw [← c4]; exact hb) (by omega), fun i hi => ?_⟩
  rw [elemAt_hi hs, h.rd i (by omega)]
  simp
end
/-- A timetable of one's own row of begins. -/
def BegV (w : World) (v : Value) (l : List Int) (m : Int) : Prop := ∃ b, v = .agg #[.slice (some ⟨b, 0, none⟩) l.length l.length, .int .i64 m] ∧ Blk w b 3 (l.map intV) ∧ l.length ≤ 1000
theorem BegV.ext {w w' : World} {v : Value} {l : List Int} {m : Int} (h : BegV w v l m) (hx : Ext w w') : BegV w' v l m := by
  obtain ⟨b, e, k, n⟩ := h
  exact ⟨b, e, k.ext hx, n⟩
theorem BegV.fr {w w' : World} {v : Value} {l : List Int} {m : Int} {b T : Nat} {z : List Value} (h : BegV w v l m) (hz : Blk w b T z) (hc : Chg w w' b) (h1 : T ≠ 3 := by decide) : BegV w' v l m := by
  obtain ⟨a, e, k, n⟩ := h
  exact ⟨a, e, k.fr hz hc (.inl h1), n⟩
theorem beg_check {w : World} {hv pv tv bv : Value} {n : Nat} {c m e : Int} {b : List Int} {br : BreachD} (h1 : HouV w hv 2) (h2 : TwoV w pv) (h3 : TrmV w tv n c) (h4 : BegV w bv b m) (hm : checkS (houseD 2) twoD (termsD n c) ⟨b, m⟩ = (br, e)) : Ret Tryz.prog 15 #[hv, pv, tv, bv] w (.tuple #[.agg (breachC br).toArray, intV e]) := by
  obtain ⟨q, rfl, hq⟩ := h3.terms
  obtain ⟨a, rfl, k, hn⟩ := h4
  exact plan_check h1 h2 hq (row_sl (l := b.map intV) k (by rw [List.length_map]) (by rw [List.length_map]; omega)) hm
/-- A plan of two steps, each after the other one. -/
def CirV (w : World) (v : Value) : Prop := ∃ b1 b2 b3 b4, v = .agg #[.slice (some ⟨b1, 0, none⟩) 2 4, .slice (some ⟨b4, 0, none⟩) 2 2] ∧ Blk w b1 71 stepsC4 ∧ Blk w b2 3 [.int .i64 1] ∧ Blk w b3 3 [.int .i64 0] ∧ Blk w b4 39 [.slice (some ⟨b2, 0, none⟩) 1 1, .slice (some ⟨b3, 0, none⟩) 1 1]
theorem CirV.ext {w w' : World} {v : Value} (h : CirV w v) (hx : Ext w w') : CirV w' v := by
  obtain ⟨b1, b2, b3, b4, e, k1, k2, k3, k4⟩ := h
  exact ⟨b1, b2, b3, b4, e, k1.ext hx, k2.ext hx, k3.ext hx, k4.ext hx⟩
theorem CirV.plan {w : World} {v : Value} (h : CirV w v) : ∃ sv av vs, v = .agg #[sv, av] ∧ PlanT w w.heap.size sv av vs circleD := by
  obtain ⟨b1, b2, b3, b4, e, k1, k2, k3, k4⟩ := h
  refine ⟨_, _, [.slice (some ⟨b2, 0, none⟩) 1 1, .slice (some ⟨b3, 0, none⟩) 1 1], e, ?_, ?_⟩
  · exact (row_of (l := [[.int .u8 3, intV 0, intV 0, intV 0], [.int .u8 4, intV 0, intV 0, intV 0], [.int .u8 3, intV 1, intV 0, intV 0], [.int .u8 4, intV 1, intV 0, intV 0]]) k1 rfl rfl (by simp) (by simp)).hi (m := 2) (by simp)
  · refine ⟨row_sl k4 rfl (by simp), rfl, fun i hi => ?_⟩
    have hi4 : i < 2 := hi
    rcases (by omega : i = 0 ∨ i = 1) with rfl | rfl
    · exact ⟨_, rfl, row_sl (l := [intV 1]) k2 rfl (by simp)⟩
    · exact ⟨_, rfl, row_sl (l := [intV 0]) k3 rfl (by simp)⟩
theorem cir_make {w : World} {hv pv tv : Value} {T : TableD} {i e : Int} (h1 : HouV w hv 2) (h2 : CirV w pv) (h3 : TrmV w tv 2 0) (hm : makeS (houseD 2) circleD (termsD 2 0) = (T, i, e)) : CallsV Tryz.prog 11 #[hv, pv, tv] w fun r w' => Ext w w' ∧ ∃ t, r = .tuple #[t, intV i, intV e] ∧ TabV w' t T := by
  obtain ⟨sv, av, vs, rfl, hp⟩ := h2.plan
  obtain ⟨q, rfl, hq⟩ := h3.terms
  exact plan_make h1 hp circle_kinds hq hm
theorem none_make {w : World} {hv tv : Value} {T : TableD} {i e : Int} (h1 : HouV w hv 2) (h3 : TrmV w tv 0 3) (hm : makeS (houseD 2) ⟨[], []⟩ (termsD 0 3) = (T, i, e)) : CallsV Tryz.prog 11 #[hv, .agg #[.slice none 0 0, .slice none 0 0], tv] w fun r w' => Ext w w' ∧ ∃ t, r = .tuple #[t, intV i, intV e] ∧ TabV w' t T := by
  obtain ⟨q, rfl, hq⟩ := h3.terms
  exact plan_make h1 ⟨Sl.nil _ _ _ _, (show LL3 w w.heap.size (.slice none 0 0) [] [] from ⟨Sl.nil _ _ _ _, rfl, fun i hi => absurd hi (by simp)⟩)⟩ (fun t ht => by cases ht) hq hm
/-- A box of a timetable without steps. -/
def EmpV (w : World) (b : Nat) : Prop := ∃ tv B, Blk w b 45 [tv, .int .i64 0] ∧ Own w B 3 1 tv (([] : List Int).map intC)
theorem EmpV.ext {w w' : World} {b : Nat} (h : EmpV w b) (hx : Ext w w') : EmpV w' b := by
  obtain ⟨t, B, k, o⟩ := h
  exact ⟨t, B, k.ext hx, o.ext hx⟩
theorem EmpV.fr {w w' : World} {b b' T : Nat} {z : List Value} (h : EmpV w b) (hz : Blk w b' T z) (hc : Chg w w' b') (hb : b ≠ b') (h1 : T ≠ 3 := by decide) : EmpV w' b := by
  obtain ⟨t, B, k, o⟩ := h
  exact ⟨t, B, hc.blk k hb, o.fr hz hc (.inl h1)⟩
theorem two_makeW {w : World} {hv pv : Value} {q : TermsVs} {x : TermsD} {l : List Int} {m i e : Int} (h1 : HouV w hv 2) (h2 : TwoV w pv) (h3 : TermsT w w.heap.size q x) (hm : makeS (houseD 2) twoD x = (⟨l, m⟩, i, e)) : CallsV Tryz.prog 11 #[hv, pv, .agg (termsC q x).toArray] w fun r w' => Ext w w' ∧ ∃ tv, r = .tuple #[.agg #[tv, intV m], intV i, intV e] ∧ Own w' w.heap.size 3 1 tv (l.map intC) := by
  obtain ⟨u, rfl, hu⟩ := h1.site
  obtain ⟨sv, av, vs, rfl, hp⟩ := h2.plan
  refine CallsV.mono (schedMake (f := ⟨u, sv, av, vs, q⟩) (Nat.le_refl _) ⟨hu, hp, h3⟩ two_kinds) ?_
  rintro _ w' ⟨hx, tv, rfl, ho⟩
  rw [hm] at ho ⊢
  exact ⟨hx, tv, rfl, ho⟩
theorem late_terms {w : World} {ta d7 tq : Nat} {a : Int} (ka : Blk w ta 81 [.int .u8 1, .int .i64 0]) (kd : Blk w d7 3 takesV) (kq : Blk w tq 3 [.int .i64 5, .int .i64 a, .int .i64 (-1), .int .i64 (-1)]) : TermsT w w.heap.size ⟨.slice none 0 0, .slice (some ⟨ta, 0, none⟩) 1 1, .slice none 0 0, .slice (some ⟨d7, 0, none⟩) 8 8, .slice (some ⟨tq, 0, none⟩) 4 4⟩ (knLate a) :=
  ⟨Sl.nil _ _ _ _, row_of (l := [[.int .u8 1, .int .i64 0]]) ka rfl rfl (by simp) (by simp), row_sl (l := [0, 2, 2, 2, 2, 2, 2, 2].map intV) kd rfl (by simp), row_sl (l := [5, a, -1, -1].map intV) kq rfl (by simp), rfl⟩
/-- Where a walk stops. -/
theorem stop_h {P : Program} {n id : Nat} {ops : Array Oper} {g : Fr} {w : World} {K : Fr → World → Prop} (h : wpdH P n id ops g w K) : wpdH P n id ops g w K := h
theorem stop_c {P : Program} {f : FuncId} {args : Array Value} {w : World} {R : Value → World → Prop} (h : CallsV P f args w R) : CallsV P f args w R := h
theorem stop_s {b : Nat} {t t' : TypeId} {cs : List Value} {p : Value} {a : Option Addr} {n c : Nat} {w : World} {f : World → Prop} (h : stX b t cs t' p (.slice a n c) w f) : stX b t cs t' p (.slice a n c) w f := h
theorem stop_i {b : Nat} {t t' : TypeId} {cs : List Value} {p : Value} {k : IntKind} {i : Int} {w : World} {f : World → Prop} (h : stX b t cs t' p (.int k i) w f) : stX b t cs t' p (.int k i) w f := h
theorem stop_l {s : Option (Nat × Nat × Nat)} {x : Value} {lo hi mx : Option Value} {w : World} {f : Value → World → Prop} (h : sliceX s x lo hi mx w f) : sliceX s x lo hi mx w f := h
theorem stop_m {t : TypeId} {p : Value} {w : World} {f : World → Prop} (h : storeX Tryz.prog t p (.int .i64 (-2)) w f) : storeX Tryz.prog t p (.int .i64 (-2)) w f := h
theorem stop_o {P : Program} {n : Nat} {c : Code} {Q : Exit → Fr → World → Prop} {g : Fr} {w : World} (h : loopX P n c Q g w) : loopX P n c Q g w := h
theorem stop_n {N m : Nat} {I : Nat → Fr → World → Prop} {w : World} {g : Fr} (h : nextG N I m g w) : nextG N I m g w := h
theorem stop_e {α : Type} {P : α → Prop} (h : ∃ a, P a) : ∃ a, P a := h
theorem stop_b {w : World} {v : Value} {l : List Int} {m : Int} (h : BegV w v l m) : BegV w v l m := h
/-- A frame of which only some slots matter. -/
theorem wpl_hold {P : Program} {a : Array Oper} {l : List Oper} {g : Fr} {w : World} {K : Fr → World → Prop} (I : Fr → Prop) (h1 : I g) (h2 : ∀ g', I g' → wpl P a l g' w K) : wpl P a l g w K := h2 g h1
/-- Seven terms at hand: their rows of durations c, their approvals v, made one behind the other (bounds B). -/
structure Sev (B c : Nat → Nat) (v : Nat → Value) (K : Nat → List Value) (A : Nat → List Int) (w : World) : Prop where
  k : ∀ i, i < 7 → Blk w (c i) 3 (K i)
  o : ∀ i, i < 7 → Own w (B i) 3 1 (v i) ((A i).map intC)
  cl : ∀ i, i < 7 → B i ≤ c i ∧ c i < B (i + 1)
  ol : ∀ i, i < 7 → ∀ b, (v i).ownBlock = some b → B i ≤ b ∧ b < B (i + 1)
  m : ∀ i, i < 7 → B i ≤ B (i + 1)
  hc : ∀ i, i < 7 → ¬ (v i).ownBlock = some (c i)
theorem Sev.ext {B c : Nat → Nat} {v : Nat → Value} {K : Nat → List Value} {A : Nat → List Int} {w w' : World} (h : Sev B c v K A w) (hx : Ext w w') : Sev B c v K A w' :=
  ⟨fun i hi => (h.k i hi).ext hx, fun i hi => (h.o i hi).ext hx, h.cl, h.ol, h.m, h.hc⟩
theorem Sev.fr {B c : Nat → Nat} {v : Nat → Value} {K : Nat → List Value} {A : Nat → List Int} {w w' : World} {b T : Nat} {z : List Value} (h : Sev B c v K A w) (hz : Blk w b T z) (hx : Chg w w' b) (h1 : T ≠ 3 := by decide) : Sev B c v K A w' :=
  ⟨fun i hi => (h.k i hi).fr hz hx (.inl h1), fun i hi => (h.o i hi).fr hz hx (.inl h1), h.cl, h.ol, h.m, h.hc⟩
theorem Sev.mono {B c : Nat → Nat} {v : Nat → Value} {K : Nat → List Value} {A : Nat → List Int} {w : World} (h : Sev B c v K A w) : ∀ j i, i ≤ j → j ≤ 7 → B i ≤ B j
  | 0, i, hi, _ => by obtain rfl : i = 0 := by omega
                      exact Nat.le_refl _
  | j + 1, i, hi, hj => by
    by_cases e : i = j + 1
    · rw [e]; exact Nat.le_refl _
    · exact Nat.le_trans (h.mono j i (by omega) (by omega)) (h.m j (by omega))
theorem Sev.far {B c : Nat → Nat} {v : Nat → Value} {K : Nat → List Value} {A : Nat → List Int} {w : World} (h : Sev B c v K A w) {i j : Nat} (hi : i < 7) (hj : j < 7) (hne : ¬ i = j) {a b : Nat} (ha : B i ≤ a ∧ a < B (i + 1)) (hb : B j ≤ b ∧ b < B (j + 1)) : a ≠ b := by
  rcases (by omega : i + 1 ≤ j ∨ j + 1 ≤ i) with h1 | h1
  · have := h.mono j (i + 1) h1 (by omega)
    omega
  · have := h.mono i (j + 1) h1 (by omega)
    omega
theorem seven {P : Nat → Prop} (h0 : P 0) (h1 : P 1) (h2 : P 2) (h3 : P 3) (h4 : P 4) (h5 : P 5) (h6 : P 6) : ∀ i, i < 7 → P i := fun i hi => by
  rcases (by omega : i = 0 ∨ i = 1 ∨ i = 2 ∨ i = 3 ∨ i = 4 ∨ i = 5 ∨ i = 6) with rfl | rfl | rfl | rfl | rfl | rfl | rfl <;> assumption
/-- A store into a row of durations. -/
theorem Sev.setC {B c : Nat → Nat} {v : Nat → Value} {K K' : Nat → List Value} {A : Nat → List Int} {w w' : World} (h : Sev B c v K A w) {j : Nat} (hj : j < 7) (hx : Chg w w' (c j)) (hb : Blk w' (c j) 3 (K' j)) (hK : ∀ i, i < 7 → ¬ i = j → K' i = K i) : Sev B c v K' A w' := by
  refine ⟨fun i hi => ?_, fun i hi => ?_, h.cl, h.ol, h.m, h.hc⟩
  · by_cases e : i = j
    · rw [e]; exact hb
    · rw [hK i hi e]
      exact hx.blk (h.k i hi) (h.far hi hj e (h.cl i hi) (h.cl j hj))
  · refine (h.o i hi).chg hx fun e2 => ?_
    by_cases e : i = j
    · rw [e] at e2; exact h.hc j hj e2
    · exact h.far hi hj e (h.ol i hi _ e2) (h.cl j hj) rfl
/-- A store into a row of approvals. -/
theorem Sev.setO {B c : Nat → Nat} {v : Nat → Value} {K : Nat → List Value} {A A' : Nat → List Int} {w w' : World} {b : Nat} (h : Sev B c v K A w) {j : Nat} (hj : j < 7) (hvb : (v j).ownBlock = some b) (hx : Chg w w' b) (hb : Own w' (B j) 3 1 (v j) ((A' j).map intC)) (hA : ∀ i, i < 7 → ¬ i = j → A' i = A i) : Sev B c v K A' w' := by
  refine ⟨fun i hi => ?_, fun i hi => ?_, h.cl, h.ol, h.m, h.hc⟩
  · refine hx.blk (h.k i hi) fun e2 => ?_
    by_cases e : i = j
    · subst e; exact h.hc i hi (by rw [hvb, e2])
    · exact h.far hi hj e (h.cl i hi) (h.ol j hj _ hvb) e2
  · by_cases e : i = j
    · rw [e]; exact hb
    · rw [hA i hi e]
      refine (h.o i hi).chg hx fun e2 => ?_
      exact h.far hi hj e (h.ol i hi _ e2) (h.ol j hj _ hvb) rfl
/-- Approvals of four steps: where they lie. -/
theorem own_four {w : World} {B : Nat} {v : Value} {l : List Int} (h : Own w B 3 1 v (l.map intC)) (hl : l.length = 4) : ∃ g cap, v = .slice (some ⟨g, 0, none⟩) 4 cap := by
  rcases h.1.2 with ⟨_, hn⟩ | ⟨g, cap, cur, e, _⟩
  · rw [List.length_map] at hn; omega
  · exact ⟨g, cap, by rw [e, List.length_map, hl]⟩
theorem own_store {w : World} {B g cap : Nat} {l : List Int} {x : Int} {f : World → Prop} (h : Own w B 3 1 (.slice (some ⟨g, 0, none⟩) 4 cap) (l.map intC)) (hl : 0 < l.length) (k : ∀ w', Now w' → Own w' B 3 1 (.slice (some ⟨g, 0, none⟩) 4 cap) ((l.set 0 x).map intC) → Sc w w' g → Chg w w' g → f w') : storeX Tryz.prog 3 (.pointer (some ⟨g, 0, none⟩)) (.int .i64 x) w f := by
  have h0 := own_setE (t' := 3) (i := 0) (u := .int .i64 x) (f := f) KR h (by simpa using hl) rfl fun b w' n e h1 h2 ho s c => by
    obtain rfl : g = b := Option.some.inj e
    refine k w' n ?_ s c
    rw [List.map_set]
    exact ho
  exact h0
/-- Terms out of the seven. -/
theorem Sev.terms {B c : Nat → Nat} {v : Nat → Value} {K : Nat → List Value} {A : Nat → List Int} {w : World} (h : Sev B c v K A w) {i : Nat} (hi : i < 7) {a : Nat} {tk : List Int} {x : TermsD} (ha : c i = a) (hk : K i = tk.map intV) (h8 : tk.length = 8) {u : Value} (hu : v i = u) (hx : x.windows = [] ∧ x.areas = [] ∧ x.takes = tk ∧ x.approved = A i) : TermsT w w.heap.size ⟨.slice none 0 0, .slice none 0 0, .slice none 0 0, .slice (some ⟨a, 0, none⟩) 8 8, u⟩ x := by
  subst ha hu
  obtain ⟨x1, x2, x3, x4⟩ := hx
  have k := h.k i hi
  rw [hk] at k
  refine ⟨by rw [x1]; exact Sl.nil _ _ _ _, by rw [x2]; exact Sl.nil _ _ _ _, by rw [x3]; exact row_sl (l := tk.map intV) k (by rw [List.length_map, h8]) (by rw [List.length_map]; omega), ?_, rfl⟩
  rw [x4]
  exact (h.o i hi).sl1 (f := intV)
theorem Sev.terms7 {B c : Nat → Nat} {v : Nat → Value} {K : Nat → List Value} {A : Nat → List Int} {w : World} (h : Sev B c v K A w) {i : Nat} (hi : i < 7) {a : Nat} {tk : List Int} {x : TermsD} (ha : c i = a) (hk : K i = tk.map intV) (h8 : tk.length = 8) {u : Value} (hu : v i = u) (hx : x.windows = [] ∧ x.areas = [] ∧ x.takes = tk.take 7 ∧ x.approved = A i) : TermsT w w.heap.size ⟨.slice none 0 0, .slice none 0 0, .slice none 0 0, .slice (some ⟨a, 0, none⟩) 7 8, u⟩ x := by
  subst ha hu
  obtain ⟨x1, x2, x3, x4⟩ := hx
  have k := h.k i hi
  rw [hk] at k
  refine ⟨by rw [x1]; exact Sl.nil _ _ _ _, by rw [x2]; exact Sl.nil _ _ _ _, ?_, by rw [x4]; exact (h.o i hi).sl1 (f := intV), rfl⟩
  rw [x3, List.map_take]
  exact (row_sl (n := 8) (l := tk.map intV) k (by rw [List.length_map, h8]) (by rw [List.length_map]; omega)).hi (m := 7) (by rw [List.length_map, h8]; decide)
theorem Sev.terms6 {B c : Nat → Nat} {v : Nat → Value} {K : Nat → List Value} {A : Nat → List Int} {w : World} (h : Sev B c v K A w) {i b : Nat} (hi : i < 7) {a : Nat} {tk : List Int} {x : TermsD} (kw : Blk w b 79 [.int .u8 2, .int .i64 2, .int .i64 0, .int .i64 1]) (ha : c i = a) (hk : K i = tk.map intV) (h8 : tk.length = 8) {u : Value} (hu : v i = u) (hx : x.windows = [⟨2, 2, 0, 1⟩] ∧ x.areas = [] ∧ x.takes = tk ∧ x.approved = A i) : TermsT w w.heap.size ⟨.slice (some ⟨b, 0, none⟩) 1 1, .slice none 0 0, .slice none 0 0, .slice (some ⟨a, 0, none⟩) 8 8, u⟩ x := by
  subst ha hu
  obtain ⟨x1, x2, x3, x4⟩ := hx
  have k := h.k i hi
  rw [hk] at k
  refine ⟨by rw [x1]; exact row_of (l := [[.int .u8 2, .int .i64 2, .int .i64 0, .int .i64 1]]) kw rfl rfl (by simp) (by simp), by rw [x2]; exact Sl.nil _ _ _ _, by rw [x3]; exact row_sl (l := tk.map intV) k (by rw [List.length_map, h8]) (by rw [List.length_map]; omega), ?_, rfl⟩
  rw [x4]
  exact (h.o i hi).sl1 (f := intV)
/-- A plan of one step of a kind that is not there. -/
def EigV (w : World) (v : Value) : Prop := ∃ b1 b2, v = .agg #[.slice (some ⟨b1, 0, none⟩) 1 1, .slice (some ⟨b2, 0, none⟩) 1 1] ∧ Blk w b1 71 [.int .u8 8, .int .i64 0, .int .i64 0, .int .i64 0] ∧ Blk w b2 39 [.slice none 0 0]
theorem EigV.ext {w w' : World} {v : Value} (h : EigV w v) (hx : Ext w w') : EigV w' v := by
  obtain ⟨b1, b2, e, k1, k2⟩ := h
  exact ⟨b1, b2, e, k1.ext hx, k2.ext hx⟩
theorem EigV.plan {w : World} {v : Value} (h : EigV w v) : ∃ sv av vs, v = .agg #[sv, av] ∧ PlanT w w.heap.size sv av vs eightD := by
  obtain ⟨b1, b2, e, k1, k2⟩ := h
  refine ⟨_, _, [.slice none 0 0], e, ?_, ?_⟩
  · exact row_of (l := [[.int .u8 8, intV 0, intV 0, intV 0]]) k1 rfl rfl (by simp) (by simp)
  · refine ⟨row_sl k2 rfl (by simp), rfl, fun i hi => ?_⟩
    have hi4 : i < 1 := hi
    obtain rfl : i = 0 := by omega
    exact ⟨_, rfl, Sl.nil _ _ _ _⟩
theorem eig_valid {w : World} {hv pv tv : Value} {r : Bool} (h1 : HouV w hv 2) (h2 : EigV w pv) (h3 : TrmV w tv 1 0) (hm : validT (houseD 2) eightD (termsD 1 0) = r) : Ret Tryz.prog 20 #[hv, pv, tv] w (.bool r) := by
  obtain ⟨sv, av, vs, rfl, hp⟩ := h2.plan
  obtain ⟨q, rfl, hq⟩ := h3.terms
  exact plan_valid h1 hp eight_kinds hq hm
theorem good_valid {w : World} {hv pv tv : Value} {r : Bool} {n : Nat} {c : Int} (h1 : HouV w hv 2) (h2 : TwoV w pv) (h3 : TrmV w tv n c) (hm : validT (houseD 2) twoD (termsD n c) = r) : Ret Tryz.prog 20 #[hv, pv, tv] w (.bool r) := by
  obtain ⟨q, rfl, hq⟩ := h3.terms
  exact two_valid h1 h2 hq hm
theorem eig_at {w : World} {pv tv bv : Value} {d g : Nat} {m now : Int} {b : List Int} (h2 : EigV w pv) (h3 : TrmV w tv 1 0) (h4 : BegV w bv b m) (hm : atS eightD (termsD 1 0) ⟨b, m⟩ now = (d, g)) : Ret Tryz.prog 16 #[pv, tv, bv, .int .i64 now] w (.tuple #[natV d, natV g]) := by
  obtain ⟨sv, av, vs, rfl, hp⟩ := h2.plan
  obtain ⟨q, rfl, hq⟩ := h3.terms
  obtain ⟨a, rfl, k, hn⟩ := h4
  have := schedAt (f := ⟨⟨.slice none 0 0, .slice none 0 0, .slice none 0 0, .slice none 0 0, .slice none 0 0, .slice none 0 0⟩, sv, av, vs, q⟩) (s := ⟨[], [], [], [], 0, [], []⟩) (stop := m) (now := now) (Nat.le_refl _) ⟨⟨Sl.nil _ _ _ _, Sl.nil _ _ _ _, Sl.nil _ _ _ _, Sl.nil _ _ _ _, Sl.nil _ _ _ _, Sl.nil _ _ _ _⟩, hp, hq⟩ eight_kinds (row_sl (l := b.map intV) k (by rw [List.length_map]) (by rw [List.length_map]; omega))
  rw [hm] at this
  exact this
end
end Go.Proofs.YtopfddchckdhgaaGreat
