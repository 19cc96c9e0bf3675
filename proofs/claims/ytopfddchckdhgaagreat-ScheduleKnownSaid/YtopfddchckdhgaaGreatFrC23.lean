
/- The layer schedule: too many hosts out of service. -/
import Derived.Test.YtopfddchckdhgaaGreatFrO23
namespace Go.Proofs.YtopfddchckdhgaaGreat
set_option linter.unusedSimpArgs false
set_option linter.unusedVariables false
open Go Go.RowKit
set_option maxRecDepth 100000
set_option linter.unusedSectionVars false
set_option maxHeartbeats 2000000
theorem sxFrC231 {p q : Prop} (hq : q) (h : p = q := by first | (simp (maxDischargeDepth := 3) only [↓X, ↓Y, ↓Q, S1, ↓reduceIte, Nat.reduceEqDiff, Nat.reduceAdd, Int.reduceLT, Int.reduceLE, Int.reduceNeg, Int.reduceBEq, Int.reduceBNe, Int.reduceEq, Nat.reduceLeDiff, Nat.reduceMul, Nat.reduceLT, *, spanV]; try exact rfl) | (simp (singlePass := true) (maxDischargeDepth := 99) only [*, S2, Nat.reduceLT, spanV]; try exact rfl)) : p := h ▸ hq
/-- The keys that have come. -/
def seenK (M left : List (Int × Value)) (h : Int) : Prop := h ∈ M.map (·.1) ∧ h ∉ left.map (·.1)
def CrI (w w' : World) (bm r : Nat) (s : SiteD) (p : PlanD) (x : TermsD) (b : List Int) (M left : List (Int × Value)) (first many : Int) : Prop := Ext w w' ∧ RngS w' bm r .i64 M left ∧ Found s p x b (seenK M left) (decide (first < 10000000)) first many
def CrJ (w w' : World) (bm r : Nat) (p : PlanD) (x : TermsD) (b : List Int) (M left : List (Int × Value)) (a : Int) (c : Nat) : Prop := Ext w w' ∧ RngS w' bm r .i64 M left ∧ c + (left.map (·.1)).countP (fun h => inSp a (spanS p x b h)) = (M.map (·.1)).countP fun h => inSp a (spanS p x b h)
section
variable {w w' : World} {fb : Nat} {f : FrV} {bv : Value} {s : SiteD} {p : PlanD} {x : TermsD} {b : List Int}
theorem CrJ.ext {w1 : World} {bm r : Nat} {M left : List (Int × Value)} {a : Int} {c : Nat} (h : CrJ w w1 bm r p x b M left a c) (hx : Ext w1 w') : CrJ w w' bm r p x b M left a c := ⟨h.1.trans hx, h.2.1.ext hx, h.2.2⟩
theorem CrI.ext {w1 : World} {bm r : Nat} {M left : List (Int × Value)} {u v : Int} (h : CrI w w1 bm r s p x b M left u v) (hx : Ext w1 w') : CrI w w' bm r s p x b M left u v := ⟨h.1.trans hx, h.2.1.ext hx, h.2.2⟩
theorem frCrowd (hF : Fit s p x) (hb : BegD p b) (h : FrR w fb f bv s p x b) : CallsV Tryz.prog 34 #[.pointer (some ⟨fb, 0, none⟩)] w fun r w' => Ext w w' ∧ ∃ u v : Int, r = .tuple #[intV u, intV v, .bool (crowdS s p x b).isSome] ∧ ∀ q, crowdS s p x b = some q → q = (u, v) := by
  have hn : Now w := trivial
  have hx : Ext w w := Ext.refl w
  have hk := h.k
  have hfk : Hid (∀ w' (_ : Ext w w'), FrK w' fb f bv s p x b) := fun w' (h2 : Ext w w') => (h.ext h2).k
  by_cases h0 : x.blast = 0
  · have e : crowdS s p x b = none := by unfold crowdS; rw [if_pos h0]
    rw [e]
    clear hF hb h
    (refine callsV_of Tryz.func34 rfl KR KR ?_; rw [Tryz.results34])
    (repeat' first
    | with_reducible first | exact ⟨⟩ | (refine gB ?_; intros) | refine gT ?_ ?_
    | refine gs ?_
    | refine sx ?_)
    exact ⟨0, 0, rfl, fun q hq => by cases hq⟩
  · have hb0 : (x.blast == 0) = false := by simpa using h0
    have hou := fun w' (h2 : Ext w w') => frOuts hF hb (h.ext h2)
    have hF' : Hid (Fit s p x) := hF
    have hb' : Hid (BegD p b) := hb
    clear hF hb h
    (refine callsV_of Tryz.func34 rfl KR KR ?_; rw [Tryz.results34])
    (repeat' first
    | with_reducible first | exact ⟨⟩ | (refine gB ?_; intros) | refine gT ?_ ?_
    | refine gs ?_
    | refine sx ?_)
    refine call_k (hou _ FR) ?_
    rintro _ w1 n1 s1 ⟨bm, M, rfl, hM, hS⟩
    have r1 := Ext.refl w1
    have hS' : Hid (SpM M (spanS p x b)) := hS
    have hMn : Hid (M.map (·.1)).Nodup := hM.mb.nd
    have hlm : bm < w1.heap.size := hM.lt
    clear hS hou
    (repeat' first
    | with_reducible first | exact ⟨⟩ | (refine gB ?_; intros) | refine gT ?_ ?_
    | refine gs ?_
    | refine sx ?_)
    refine range_k rfl hM span_under fun r2 w2 n2 R2 s2 q2 => ?_
    have hx12 : Ext w1 w2 := FR
    have hxw1 : Ext w w1 := FR
    have hr2 : w1.heap.size ≤ r2 := q2.2.1 _ (Nat.le_refl _)
    have hbr : ¬ bm = r2 := by omega
    have I0 : Hid (CrI w1 w2 bm r2 s p x b M M 10000000 0) := ⟨hx12, R2, by
      have : Found s p x b (fun _ => False) false 10000000 0 := Found.start
      refine ⟨fun h hh => absurd hh.1 hh.2, fun hh => by simp at hh⟩⟩
    clear R2 hM
    (repeat' first
    | with_reducible first | exact ⟨⟩ | (refine gB ?_; intros) | refine gT ?_ ?_
    | refine gs ?_
    | refine sx ?_)
    refine loop_m (fun g0 left g w' => (g 0 = g0 0 ∧ g 5 = g0 5 ∧ g 23 = g0 23) ∧ ∃ u v : Int, g 6 = intV u ∧ g 7 = intV v ∧ Hid (CrI w1 w' bm r2 s p x b M left u v)) M KR ?_ ?_
    · (repeat' first
    | with_reducible first | exact ⟨⟩ | (refine gB ?_; intros) | refine gT ?_ ?_
    | refine gs ?_
    | refine sx ?_)
      exact ⟨_, _, rfl, rfl, I0.out⟩
    · rintro left g3 w3 n3 ⟨hf3, u, v, h6, h7, hp3⟩
      simp (maxDischargeDepth := 3) only [U, ↓reduceIte, Nat.reduceEqDiff, *] at hf3
      obtain ⟨hx3, R3, F3⟩ := hp3.out
      have r3 := Ext.refl w3
      have R3' : Hid (RngS w3 bm r2 .i64 M left) := R3
      have F3' : Hid (Found s p x b (seenK M left) (decide (u < 10000000)) u v) := F3
      clear hp3 R3 F3
      (repeat' first
    | with_reducible first | exact ⟨⟩ | (refine gB ?_; intros) | refine gT ?_ ?_
    | refine gs ?_
    | refine sx ?_)
      refine nextm_k hf3.2.2 R3'.out (fun hl0 => ?_) fun h y w4 n4 hin R4 c4 s4 hen => ?_
      · subst hl0
        have hfin : Hid (crowdS s p x b = if decide (u < 10000000) = true then some (u, v) else none) := F3'.out.crowd hF'.out h0 fun z hz => ⟨(hS'.out.keys hMn.out z).2 hz, fun hh => by cases hh⟩
        have hxw3 : Ext w w3 := hxw1.trans hx3
        (repeat' first
    | with_reducible first | exact ⟨⟩ | (refine gB ?_; intros) | refine gT ?_ ?_
    | refine gs ?_
    | refine sx ?_)
        refine ⟨u, v, ?_, fun q hq => ?_⟩
        · rw [hfin.out]
          by_cases hu : u < 10000000 <;> simp [hu, intV]
        · rw [hfin.out] at hq
          split at hq
          · exact (Option.some.inj hq).symm
          · cases hq
      · have hsub := R3'.out.sub _ hin
        obtain ⟨⟨a, c⟩, hy, rfl⟩ := hS'.out.key hMn.out hsub
        have hrng := spanS_rng hF'.out hb'.out hy
        have hink : h ∈ left.map (·.1) := List.mem_map.2 ⟨_, hin, rfl⟩
        have hlen : Hid ((left.filter fun p => !(p.1 == h)).length < left.length) := filter_left hin
        have hx4 : Ext w1 w4 := hx3.trans' (c4.below hr2 hx3.size)
        have R4' : Hid (RngS w4 bm r2 .i64 M (left.filter fun p => !(p.1 == h))) := R4
        have r4 := Ext.refl w4
        have hseen : Hid (∀ z, seenK M (left.filter fun p => !(p.1 == h)) z ↔ seenK M left z ∨ z = h) := fun z => by
          unfold seenK
          rw [mem_gone]
          constructor
          · rintro ⟨h1, h2⟩
            by_cases e : z = h
            · exact .inr e
            · exact .inl ⟨h1, fun h3 => h2 ⟨h3, e⟩⟩
          · rintro (⟨h1, h2⟩ | rfl)
            · exact ⟨h1, fun h3 => h2 h3.1⟩
            · exact ⟨List.mem_map.2 ⟨_, hsub, rfl⟩, fun h3 => h3.2 rfl⟩
        have hmore : Hid (Found s p x b (seenK M (left.filter fun p => !(p.1 == h))) _ _ _) := F3'.out.more hseen.out hy
        clear c4 s4 R4 hin
        (repeat' first
    | with_reducible first | exact ⟨⟩ | (refine gB ?_; intros) | refine gT ?_ ?_
    | refine gs ?_
    | refine sx ?_)
        refine entry_k hf3.2.2 hen ?_
        (repeat' first
    | with_reducible first | exact ⟨⟩ | (refine gB ?_; intros) | refine gT ?_ ?_
    | refine gs ?_
    | refine sxFrC231 ?_)
        rename_i b5 w5 n5 k5 s5 q5 w6 n6 k6 s6
        have hx46 : Ext w4 w6 := FR
        have r6 := Ext.refl w6
        have R6 : Hid (RngS w6 bm r2 .i64 M (left.filter fun p => !(p.1 == h))) := R4'.out.ext hx46
        have hfr6 := hfk.out w6 ((hxw1.trans hx4).trans hx46)
        refine range_k rfl R6.out.m span_under fun r7 w7 n7 R7 s7 q7 => ?_
        have hr7 : w6.heap.size ≤ r7 := q7.2.1 _ (Nat.le_refl _)
        have hx67 : Ext w6 w7 := FR
        have J0 : Hid (CrJ w6 w7 bm r7 p x b M M a 0) := ⟨hx67, R7, by omega⟩
        clear R7
        (repeat' first
    | with_reducible first | exact ⟨⟩ | (refine gB ?_; intros) | refine gT ?_ ?_
    | refine gs ?_
    | refine sx ?_)
        refine loop_m (fun g0 left2 g w' => (g 0 = g0 0 ∧ g 5 = g0 5 ∧ g 6 = g0 6 ∧ g 7 = g0 7 ∧ g 9 = g0 9 ∧ g 23 = g0 23 ∧ g 29 = g0 29) ∧ ∃ n : Nat, g 10 = .int .i64 (n : Int) ∧ Hid (CrJ w6 w' bm r7 p x b M left2 a n)) M KR ?_ ?_
        · (repeat' first
    | with_reducible first | exact ⟨⟩ | (refine gB ?_; intros) | refine gT ?_ ?_
    | refine gs ?_
    | refine sx ?_)
          exact ⟨0, rfl, J0.out⟩
        · rintro left2 g8 w8 n8 ⟨hf8, n, h10, hp8⟩
          simp (maxDischargeDepth := 3) only [U, ↓reduceIte, Nat.reduceEqDiff, *] at hf8
          obtain ⟨hx8, R8, hc8⟩ := hp8.out
          have s8 := hx8.st
          have r8 := Ext.refl w8
          have R8' : Hid (RngS w8 bm r7 .i64 M left2) := R8
          have hc8' : Hid (n + (left2.map (·.1)).countP (fun h => inSp a (spanS p x b h)) = (M.map (·.1)).countP fun h => inSp a (spanS p x b h)) := hc8
          clear hp8 R8 hc8
          (repeat' first
    | with_reducible first | exact ⟨⟩ | (refine gB ?_; intros) | refine gT ?_ ?_
    | refine gs ?_
    | refine sx ?_)
          refine nextm_k hf8.2.2.2.2.2.2 R8'.out (fun hl0 => ?_) fun h2 y2 w9 n9 hin2 R9 c9 s9 hen2 => ?_
          · subst hl0
            have hn : n = cntS s p x b a := by
              have h1 := hc8'.out
              rw [cnt_keys hF'.out hMn.out (fun z => hS'.out.keys hMn.out z)] at h1
              simpa using h1
            have hxw8 : Ext w w8 := ((hxw1.trans hx4).trans hx46).trans hx8
            have hk8 := hfk.out w8 hxw8
            have R8o : Hid (RngS w8 bm r2 .i64 M (left.filter fun p => !(p.1 == h))) := R6.out.ext hx8
            have hx18 : Ext w1 w8 := (hx4.trans hx46).trans hx8
            have hle : Hid (a < 10000000) := show a < 10000000 by omega
            rw [← hn] at hmore
            clear hn
            by_cases hcb : x.blast < (n : Int) ∧ a < u
            · obtain ⟨hcb1, hcb2⟩ := hcb
              have F : Hid (CrI w1 w8 bm r2 s p x b M (left.filter fun p => !(p.1 == h)) a n) := ⟨hx18, R8o.out, by
                have := hmore.out
                rw [if_pos ⟨hcb1, .inr hcb2⟩, if_pos ⟨hcb1, .inr hcb2⟩, decide_eq_true hcb1, Bool.or_true] at this
                rw [decide_eq_true hle.out]
                exact this⟩
              (repeat' first
    | with_reducible first | exact ⟨⟩ | (refine gB ?_; intros) | refine gT ?_ ?_
    | refine gs ?_
    | refine sx ?_)
              refine next_m hlen.out ?_
              (repeat' first
    | with_reducible first | exact ⟨⟩ | (refine gB ?_; intros) | refine gT ?_ ?_
    | refine gs ?_
    | refine sx ?_)
              exact ⟨_, _, rfl, rfl, F.out.ext FR⟩
            · have F : Hid (CrI w1 w8 bm r2 s p x b M (left.filter fun p => !(p.1 == h)) u v) := ⟨hx18, R8o.out, by
                have h9 := hmore.out
                have hu : ¬ (x.blast < (n : Int) ∧ (decide (u < 10000000) = false ∨ a < u)) := fun ⟨h1, h2⟩ => by
                  have : ¬ a < u := fun h3 => hcb ⟨h1, h3⟩
                  rcases h2 with h2 | h2
                  · have := of_decide_eq_false h2
                    have := hle.out
                    omega
                  · exact this h2
                rw [if_neg hu, if_neg hu] at h9
                have e : (decide (u < 10000000) || decide (x.blast < (n : Int))) = decide (u < 10000000) := by
                  by_cases h1 : u < 10000000
                  · simp [h1]
                  · have : ¬ x.blast < (n : Int) := fun h2 => hu ⟨h2, .inl (decide_eq_false h1)⟩
                    simp [h1, this]
                rw [e] at h9
                exact h9⟩
              have hcb' : Hid _ := hcb
              clear hcb
              (repeat' first
    | with_reducible first | exact ⟨⟩ | (refine gB ?_; intros) | refine gT ?_ ?_
    | refine gs ?_
    | refine sx ?_)
              · exact absurd ⟨by assumption, by assumption⟩ hcb'.out
              all_goals
                refine next_m hlen.out ?_
                (repeat' first
    | with_reducible first | exact ⟨⟩ | (refine gB ?_; intros) | refine gT ?_ ?_
    | refine gs ?_
    | refine sx ?_)
                exact ⟨_, _, rfl, rfl, F.out.ext FR⟩
          · have hsub2 := R8'.out.sub _ hin2
            obtain ⟨⟨a2, c2⟩, hy2, rfl⟩ := hS'.out.key hMn.out hsub2
            have hink2 : h2 ∈ left2.map (·.1) := List.mem_map.2 ⟨_, hin2, rfl⟩
            have hlen2 : Hid ((left2.filter fun p => !(p.1 == h2)).length < left2.length) := filter_left hin2
            have hcg : Hid _ := count_gone (f := fun h => inSp a (spanS p x b h)) R8'.out.nd hink2
            have hx9 : Ext w6 w9 := hx8.trans' (c9.below hr7 hx8.size)
            have s69 := hx9.st
            have r9 := Ext.refl w9
            have R9' : Hid (RngS w9 bm r7 .i64 M (left2.filter fun p => !(p.1 == h2))) := R9
            rw [hy2] at hcg
            have hnn : Hid (n < 1000000) := by
              have h1 := hc8'.out
              rw [cnt_keys hF'.out hMn.out (fun z => hS'.out.keys hMn.out z)] at h1
              have h2 : cntS s p x b a ≤ (hostsN s).length := List.countP_le_length
              have h3 : (hostsN s).length = s.hosts.length := by simp [hostsN]
              have h4 := fit_hosts hF'.out
              show n < 1000000
              omega
            have hw : IntKind.i64.wrap ((n : Int) + 1) = ((n + 1 : Nat) : Int) := by have := hnn.out; rw [wrap_i64_id] <;> omega
            clear c9 s9 R9 hin2 s8
            (repeat' first
    | with_reducible first | exact ⟨⟩ | (refine gB ?_; intros) | refine gT ?_ ?_
    | refine gs ?_
    | refine sx ?_)
            refine entry_k hf8.2.2.2.2.2.2 hen2 ?_
            by_cases hcc : a2 ≤ a ∧ a < c2
            · obtain ⟨hc1, hc2⟩ := hcc
              have F : Hid (CrJ w6 w9 bm r7 p x b M (left2.filter fun p => !(p.1 == h2)) a (n + 1)) := ⟨hx9, R9'.out, by
                have h1 := hcg.out
                rw [show inSp a (some (a2, c2)) = true by simp [inSp, hc1, hc2], if_pos rfl] at h1
                have := hc8'.out
                omega⟩
              (repeat' first
    | with_reducible first | exact ⟨⟩ | (refine gB ?_; intros) | refine gT ?_ ?_
    | refine gs ?_
    | refine sxFrC231 ?_)
              refine next_m hlen2.out ?_
              (repeat' first
    | with_reducible first | exact ⟨⟩ | (refine gB ?_; intros) | refine gT ?_ ?_
    | refine gs ?_
    | refine sx ?_)
              exact ⟨n + 1, by simp, F.out.ext FR⟩
            · have F : Hid (CrJ w6 w9 bm r7 p x b M (left2.filter fun p => !(p.1 == h2)) a n) := ⟨hx9, R9'.out, by
                have h1 := hcg.out
                rw [if_neg (by simp only [inSp, Bool.and_eq_true, decide_eq_true_eq]; exact hcc)] at h1
                have := hc8'.out
                omega⟩
              have hcc' : Hid _ := hcc
              clear hcc
              (repeat' first
    | with_reducible first | exact ⟨⟩ | (refine gB ?_; intros) | refine gT ?_ ?_
    | refine gs ?_
    | refine sxFrC231 ?_)
              · exact absurd ⟨by assumption, by assumption⟩ hcc'.out
              all_goals
                refine next_m hlen2.out ?_
                (repeat' first
    | with_reducible first | exact ⟨⟩ | (refine gB ?_; intros) | refine gT ?_ ?_
    | refine gs ?_
    | refine sx ?_)
                exact ⟨n, by simp, F.out.ext FR⟩
end
end Go.Proofs.YtopfddchckdhgaaGreat
