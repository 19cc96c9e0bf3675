
/- The layer schedule: place, walked. -/
import Derived.Test.YtopfddchckdhgaaGreatFrQ23
namespace Go.Proofs.YtopfddchckdhgaaGreat
set_option linter.unusedSimpArgs false
set_option linter.unusedVariables false
open Go Go.RowKit
set_option maxRecDepth 100000
set_option linter.unusedSectionVars false
set_option maxHeartbeats 4000000
section
variable {w w' : World} {B fb : Nat} {f : FrV} {bv : Value} {s : SiteD} {p : PlanD} {x : TermsD} {b : List Int}
theorem frPlace (hF : Fit s p x) (hb : BegD p b) (h : FrO w B fb f bv s p x b) {i : Nat} (hi : i < p.steps.length) (hun : Sch.at_ b i = -1) : CallsV Tryz.prog 24 #[.pointer (some ⟨fb, 0, none⟩), .int .i64 i] w fun r w' => TBn (fun c => blockOf bv = some c) w w' ∧ r = .bool (Sch.early (scS s p x) b i).isSome ∧ FrO w' B fb f bv s p x (match Sch.early (scS s p x) b i with | some t => b.set i t | none => b) := by
  have hn : Now w := trivial
  have hx : Ext w w := Ext.refl w
  have hF' : Hid (Fit s p x) := hF
  have hb' : Hid (BegD p b) := hb
  have hO' : Hid (FrO w B fb f bv s p x b) := h
  have hr' : Hid (FrR w fb f bv s p x b) := h.r
  have hk := h.r.k
  have hia : i < p.after.length := by rw [hF.len]; exact hi
  have hlb : i < b.length := by rw [hb.len]; exact hi
  have hla : i < x.approved.length := by rw [hF.appr]; exact hi
  have hap : Hid (appS x i = x.approved[i]) := show appS x i = x.approved[i] by simp [appS, hla]
  obtain ⟨u, hu, hU⟩ := hk.2.2.2.2.2.2.2.2.2.1 i hia
  have hmaxa := (hU.2.2.2.2.2.2.1 w (Bl.refl (Nat.le_refl _))).max_
  have hmaxw := h.arg.x.n.max_
  have hal : Hid ((afterS p i).length ≤ 12) := hF.alen i hi
  have hwl : Hid (x.windows.length ≤ 16) := hF.wl
  have hfk : Hid (∀ w' (_ : Ext w w'), FrK w' fb f bv s p x b) := fun w' h2 => (h.r.ext h2).k
  have hen : Hid (∀ w' (_ : Ext w w') j (_ : j < p.steps.length), Ret Tryz.prog 55 #[.pointer (some ⟨fb, 0, none⟩), .int .i64 j] w' (intV (Sch.at_ b j + takeS p x j))) := fun w' h2 j hj => frEnd hF hb (h.r.ext h2) hj
  have hpl : Hid _ := hF.places i hi
  have hun' : Hid (Sch.at_ b i = -1) := hun
  have hcal : callable Tryz.prog 54 = true := by kernel_rfl
  obtain ⟨gb, hgb, hgw⟩ : ∃ gb, blockOf bv = some gb ∧ gb < w.heap.size := by
    rcases h.own.1.2 with ⟨rfl, h0⟩ | ⟨g, cap, cur, rfl, hb1, hg, _⟩
    · rw [List.length_map] at h0; omega
    · exact ⟨g, rfl, (Array.getElem?_eq_some_iff.1 hg).1⟩
  clear hF hb h hun
  (refine callsV_of Tryz.func24 rfl KR KR ?_; rw [Tryz.results24])
  (repeat' first
    | with_reducible first | exact ⟨⟩ | (refine gB ?_; intros) | refine gT ?_ ?_
    | refine gs ?_
    | refine sx ?_)
  rename_i b2 w2 n2 k2 s2 q2 b3 w3 n3 k3 s3 q3 e3 b5 w5 n5 k5 s5 q5
  have hx5 : Ext w w5 := FR
  have hw2 : w.heap.size ≤ b2 := FR
  have hw3 : w.heap.size ≤ b3 := FR
  have hw5 : w.heap.size ≤ b5 := FR
  have K2 : Blk w5 b2 83 [.pointer (some ⟨fb, 0, none⟩)] := k2.2.1 _ FR
  have K3 : Blk w5 b3 3 [.int .i64 x.first] := k3.2.1 _ FR
  have h25 : ¬ b2 = b5 := by have h1 : b2 < w3.heap.size := FR; have h2 : w3.heap.size ≤ b5 := FR; omega
  have h35 : ¬ b3 = b5 := by have h1 : b3 < w3.heap.size := FR; have h2 : w3.heap.size ≤ b5 := FR; omega
  refine fun hb5 => store_intro (i := 0) KR hb5 (by simp) rfl fun w6 hb6 c6 => ?_
  have hx6 : Ext w w6 := hx5.trans' (c6.below hw5 hx5.size)
  have I6 : Hid (MomI w b2 b5 fb x (fun _ => False) 1 w6) := ⟨hx6, c6.blk K2 h25, .slice (some ⟨b3, 0, none⟩) 1 1, [x.first], hb6, Own.ofBlk (cs := [intC x.first]) (c6.blk K3 h35) (fun c hc => by rw [List.mem_singleton.1 hc]; rfl) hw3 (by simp), by simp, fun t => by simp⟩
  have n6 : Now w6 := trivial
  have kk6 := hfk.out w6 hx6
  have k26 := I6.out.k2.bk
  have r6 := Ext.refl w6
  clear hk k2 k3 e3 k5 hb6 c6 hb5 K2 K3 s2 s3 s5 q2 q3 q5 n2 n3 n5
  (repeat' first
    | with_reducible first | exact ⟨⟩ | (refine gB ?_; intros) | refine gT ?_ ?_
    | refine gs ?_
    | refine sx ?_)
  refine CallsV.mono (frAdd (w := w) (cQ2 := cA1 x i) (hr'.out.ext hx6) hw5 I6.out (by omega) fun y => by unfold cA1; rw [hap.out]; simp) ?_
  rintro _ w7 ⟨I7, _⟩
  have hx7 : Ext w w7 := I7.ext
  have n7 : Now w7 := trivial
  have kk7 := hfk.out w7 hx7
  have k27 := I7.k2.bk
  have b7 : Bl w.heap.size w w7 := ⟨Nat.le_refl _, hx7⟩
  have I7' : Hid (MomI w b2 b5 fb x (cA2 p x b i 0) 2 w7) := I7.to (Ext.refl _) (by omega) fun t => by unfold cA2; simp
  clear I7 kk6 k26 r6
  (repeat' first
    | with_reducible first | exact ⟨⟩ | (refine gB ?_; intros) | refine gT ?_ ?_
    | refine gs ?_
    | refine sx ?_)
  refine loop_g (afterS p i).length (fun g0 k g w' => g 41 = .int .i64 (k : Int) ∧ (g 1 = g0 1 ∧ g 2 = g0 2 ∧ g 5 = g0 5 ∧ g 6 = g0 6 ∧ g 39 = g0 39 ∧ g 40 = g0 40) ∧ Hid (MomI w b2 b5 fb x (cA2 p x b i k) (2 + k) w')) KR ?_ ?_ ?_
  · (repeat' first
    | with_reducible first | exact ⟨⟩ | (refine gB ?_; intros) | refine gT ?_ ?_
    | refine gs ?_
    | refine sx ?_)
    all_goals exact I7'.out
  · rintro k m g8 w8 hk8 hlt n8 ⟨hi8, hf8, hp8⟩
    simp (maxDischargeDepth := 3) only [U, ↓reduceIte, Nat.reduceEqDiff, *] at hf8
    have I8 : Hid (MomI w b2 b5 fb x (cA2 p x b i k) (2 + k) w8) := hp8
    have hx8 : Ext w w8 := hp8.out.ext
    have kk8 := hfk.out w8 hx8
    have k28 := hp8.out.k2.bk
    have b8 : Bl w.heap.size w w8 := ⟨Nat.le_refl _, hx8⟩
    have r8 := Ext.refl w8
    have hw : IntKind.i64.wrap ((k : Int) + 1) = ((k + 1 : Nat) : Int) := by rw [wrap_i64_id] <;> omega
    have hj := hpl.out _ (List.getElem_mem hlt)
    have hnx := cA2_next (p := p) (x := x) (b := b) (i := i) hlt
    replace hnx : Hid _ := hnx
    obtain ⟨j, hjn⟩ : ∃ j : Nat, (afterS p i)[k] = (j : Int) := ⟨(afterS p i)[k].toNat, by omega⟩
    rw [hjn, Int.toNat_natCast] at hnx
    have hjl : j < p.steps.length := by omega
    have he8 := fun w' (h2 : Ext w8 w') => hen.out w' (hx8.trans h2) j hjl
    clear hp8 kk7 k27 hj
    (repeat' first
    | with_reducible first | exact ⟨⟩ | (refine gB ?_; intros) | refine gT ?_ ?_
    | refine gs ?_
    | ((with_reducible refine at_f 55 ?_); refine ret_k (he8 _ FR) fun _ _ _ => ?_)
    | refine sx ?_)
    rename_i w9 n9 s9
    have hx89 : Ext w8 w9 := FR
    refine CallsV.mono (frAdd (w := w) (cQ2 := cA2 p x b i (k + 1)) (hr'.out.ext (hx8.trans hx89)) hw5 (I8.out.to hx89 (Nat.le_refl _) fun _ => Iff.rfl) (by have := hal.out; omega) hnx.out) ?_
    rintro _ w10 ⟨I10, _⟩
    have n10 : Now w10 := trivial
    have I10' : Hid (MomI w b2 b5 fb x (cA2 p x b i (k + 1)) (2 + (k + 1)) w10) := I10
    clear I10
    (repeat' first
    | with_reducible first | exact ⟨⟩ | (refine gB ?_; intros) | refine gT ?_ ?_
    | refine gs ?_
    | refine sx ?_)
    refine next_g hk8 hlt ?_
    (repeat' first
    | with_reducible first | exact ⟨⟩ | (refine gB ?_; intros) | refine gT ?_ ?_
    | refine gs ?_
    | refine sx ?_)
    all_goals exact I10'.out
  · rintro g8 w8 n8 ⟨hi8, hf8, hp8⟩
    simp (maxDischargeDepth := 3) only [U, ↓reduceIte, Nat.reduceEqDiff, *] at hf8
    have hx8 : Ext w w8 := hp8.out.ext
    have kk8 := hfk.out w8 hx8
    have k28 := hp8.out.k2.bk
    have I8 : Hid (MomI w b2 b5 fb x (cA3 p x b i 0) 14 w8) := hp8.out.to (Ext.refl _) (by have := hal.out; omega) fun t => by unfold cA3; simp
    clear hp8 kk7 k27
    (repeat' first
    | with_reducible first | exact ⟨⟩ | (refine gB ?_; intros) | refine gT ?_ ?_
    | refine gs ?_
    | refine sx ?_)
    refine loop_g x.windows.length (fun g0 k g w' => g 58 = .int .i64 (k : Int) ∧ (g 1 = g0 1 ∧ g 2 = g0 2 ∧ g 5 = g0 5 ∧ g 6 = g0 6 ∧ g 56 = g0 56 ∧ g 57 = g0 57) ∧ Hid (MomI w b2 b5 fb x (cA3 p x b i k) (14 + k) w')) KR ?_ ?_ ?_
    · (repeat' first
    | with_reducible first | exact ⟨⟩ | (refine gB ?_; intros) | refine gT ?_ ?_
    | refine gs ?_
    | refine sx ?_)
      all_goals exact I8.out
    · rintro k m g9 w9 hk9 hlt n9 ⟨hi9, hf9, hp9⟩
      simp (maxDischargeDepth := 3) only [U, ↓reduceIte, Nat.reduceEqDiff, *] at hf9
      have I9 : Hid (MomI w b2 b5 fb x (cA3 p x b i k) (14 + k) w9) := hp9
      have hx9 : Ext w w9 := hp9.out.ext
      have kk9 := hfk.out w9 hx9
      have k29 := hp9.out.k2.bk
      have b9 : Bl w.heap.size w w9 := ⟨Nat.le_refl _, hx9⟩
      have r9 := Ext.refl w9
      have hw : IntKind.i64.wrap ((k : Int) + 1) = ((k + 1 : Nat) : Int) := by rw [wrap_i64_id] <;> omega
      have hnx : Hid _ := cA3_next (p := p) (x := x) (b := b) (i := i) hlt
      clear hp9 kk8 k28
      (repeat' first
    | with_reducible first | exact ⟨⟩ | (refine gB ?_; intros) | refine gT ?_ ?_
    | refine gs ?_
    | simp (maxDischargeDepth := 3) only [↓X, ↓Y, ↓Q, S1, ↓reduceIte, Nat.reduceEqDiff, Nat.reduceAdd, Int.reduceLT, Int.reduceLE, Int.reduceNeg, Int.reduceBEq, Int.reduceBNe, Int.reduceEq, Nat.reduceLeDiff, Nat.reduceMul, Nat.reduceLT, *, windowV]
    | simp (singlePass := true) (maxDischargeDepth := 99) only [*, S2, Nat.reduceLT, windowV])
      rename_i b10 w10 n10 k10 s10 q10 w11 n11 k11 s11
      have hx911 : Ext w9 w11 := FR
      refine CallsV.mono (frAdd (w := w) (cQ2 := cA3 p x b i (k + 1)) (hr'.out.ext (hx9.trans hx911)) hw5 (I9.out.to hx911 (Nat.le_refl _) fun _ => Iff.rfl) (by have := hwl.out; omega) hnx.out) ?_
      rintro _ w12 ⟨I12, _⟩
      have n12 : Now w12 := trivial
      have I12' : Hid (MomI w b2 b5 fb x (cA3 p x b i (k + 1)) (14 + (k + 1)) w12) := I12
      clear I12
      (repeat' first
    | with_reducible first | exact ⟨⟩ | (refine gB ?_; intros) | refine gT ?_ ?_
    | refine gs ?_
    | refine sx ?_)
      refine next_g hk9 hlt ?_
      (repeat' first
    | with_reducible first | exact ⟨⟩ | (refine gB ?_; intros) | refine gT ?_ ?_
    | refine gs ?_
    | refine sx ?_)
      all_goals exact I12'.out
    · rintro g9 w9 n9 ⟨hi9, hf9, hp9⟩
      simp (maxDischargeDepth := 3) only [U, ↓reduceIte, Nat.reduceEqDiff, *] at hf9
      have hx9 : Ext w w9 := hp9.out.ext
      have kk9 := hfk.out w9 hx9
      have k29 := hp9.out.k2.bk
      have r9 := Ext.refl w9
      have I9 : Hid (MomI w b2 b5 fb x (cA3 p x b i x.windows.length) 30 w9) := hp9.out.to (Ext.refl _) (by have := hwl.out; omega) fun t => Iff.rfl
      clear hp9 kk8 k28
      (repeat' first
    | with_reducible first | exact ⟨⟩ | (refine gB ?_; intros) | refine gT ?_ ?_
    | refine gs ?_
    | refine sx ?_)
      refine call_k (frOuts hF'.out hb'.out (hr'.out.ext hx9)) ?_
      rintro _ w10 n10 s10 ⟨bm, M, rfl, hM, hS⟩
      have hx910 : Ext w9 w10 := FR
      have hMk : Hid (∀ h, h ∈ M.map (·.1) ↔ (spanS p x b h).isSome = true) := fun h => hS.keys hM.mb.nd h
      have hMn : Hid (M.map (·.1)).Nodup := hM.mb.nd
      have hS' : Hid (SpM M (spanS p x b)) := hS
      have hMl : Hid (M.length ≤ 16) := by
        have h1 := hMn.out.length_le_of_subset (l₂ := hostsN s) fun h hh => spanS_host (b := b) hF'.out ((hMk.out h).1 hh)
        have h2 := fit_hosts hF'.out
        show M.length ≤ 16
        rw [List.length_map] at h1
        simp only [hostsN, List.length_map, List.length_range] at h1
        omega
      clear hS
      (repeat' first
    | with_reducible first | exact ⟨⟩ | (refine gB ?_; intros) | refine gT ?_ ?_
    | refine gs ?_
    | refine sx ?_)
      refine range_k rfl hM span_under fun rr w11 n11 R11 s11 q11 => ?_
      have hx911' : Ext w9 w11 := FR
      have hrr : w.heap.size ≤ rr := Nat.le_trans (Nat.le_trans hx9.size hx910.size) (q11.2.1 _ (Nat.le_refl _))
      have I11 : Hid (PlM w w11 b2 b5 fb bm rr p x b i M M) := ⟨I9.out.to hx911' (by omega) fun t => by
        unfold cA4 seenK
        exact ⟨fun h => h.elim id fun ⟨z, a, h1, _⟩ => absurd h1.1 h1.2, .inl⟩, R11, Nat.le_refl _⟩
      clear R11 hM
      (repeat' first
    | with_reducible first | exact ⟨⟩ | (refine gB ?_; intros) | refine gT ?_ ?_
    | refine gs ?_
    | refine sx ?_)
      refine loop_m (fun g0 left g w' => (g 1 = g0 1 ∧ g 2 = g0 2 ∧ g 5 = g0 5 ∧ g 6 = g0 6 ∧ g 69 = g0 69) ∧ Hid (PlM w w' b2 b5 fb bm rr p x b i M left)) M KR ?_ ?_
      · (repeat' first
    | with_reducible first | exact ⟨⟩ | (refine gB ?_; intros) | refine gT ?_ ?_
    | refine gs ?_
    | refine sx ?_)
        all_goals exact I11.out
      · rintro left g12 w12 n12 ⟨hf12, hp12⟩
        simp (maxDischargeDepth := 3) only [U, ↓reduceIte, Nat.reduceEqDiff, *] at hf12
        obtain ⟨M12, R12, hll⟩ := hp12.out
        have M12' : Hid (MomI w b2 b5 fb x (cA4 p x b i M left) (30 + (M.length - left.length)) w12) := M12
        have R12' : Hid (RngS w12 bm rr .i64 M left) := R12
        have hx12 : Ext w w12 := M12.ext
        have r12 := Ext.refl w12
        replace hll : Hid _ := hll
        clear hp12 M12 R12 kk9 k29 s10 s11 I11
        (repeat' first
    | with_reducible first | exact ⟨⟩ | (refine gB ?_; intros) | refine gT ?_ ?_
    | refine gs ?_
    | refine sx ?_)
        refine nextm_k hf12.2.2.2.2 R12'.out (fun hl0 => ?_) fun h y w13 n13 hin R13 c13 s13 hen => ?_
        · subst hl0
          obtain ⟨_, K2, v, L, K5, hoL, hLl, hLm⟩ := M12'.out
          have hEf : Hid (Sch.early (scS s p x) b i = (sortI L).find? (Sch.poss (scS s p x) b i)) := early_find hF'.out hi hMk.out hLm
          have hSr : Hid (∀ t ∈ sortI L, 0 ≤ t ∧ t ≤ 1000000) := fun t ht => by
            have h1 := (hLm t).1 (sortI_mem.1 ht)
            have h2 := hF'.out.first
            have h3 := hF'.out.last
            omega
          have hSl : Hid ((sortI L).length ≤ 9223372036854775807) := by
            show (sortI L).length ≤ 9223372036854775807
            rw [show (sortI L).length = L.length from List.length_mergeSort _]
            have := hMl.out
            omega
          have k512 := K5.bk
          have ho1 := hoL.one
          have hco : ∀ w', Ext w12 w' → CallsV Tryz.prog 57 #[v] w' fun r w'' => TBn (fun c => v.ownBlock = some c) w' w'' ∧ r = .tuple #[] ∧ Own w'' w.heap.size 3 1 v ((sortI L).map intC) := fun w' hx => sortIntsT (hoL.ext hx)
          have K2' : Hid (Blk w12 b2 83 [.pointer (some ⟨fb, 0, none⟩)]) := K2
          have K5' : Hid (Blk w12 b5 39 [v]) := K5
          have hov : Hid ((∀ c, v.ownBlock = some c → w.heap.size ≤ c) ∧ ¬ v.ownBlock = some b2 ∧ ¬ v.ownBlock = some b5) := ⟨fun c hc => (hoL.lt c hc).1, hoL.ne K2 (by decide), hoL.ne K5 (by decide)⟩
          replace hco : Hid _ := hco
          clear K2 K5 hoL hLl hLm
          (repeat' first
    | with_reducible first | exact ⟨⟩ | (refine gB ?_; intros) | refine gT ?_ ?_
    | refine gs ?_
    | refine sx ?_)
          refine CallsV.mono (hco.out _ FR) ?_
          rintro _ w13 ⟨T13, rfl, hS13⟩
          have hx13 : Ext w w13 := hx12.trans' ⟨T13.os, T13.tape, T13.output, T13.size, fun c hc => T13.block c (Nat.lt_of_lt_of_le hc hx12.size) fun e => by have := hov.out.1 c e; omega⟩
          have K213 : Blk w13 b2 83 [.pointer (some ⟨fb, 0, none⟩)] := (T13.block b2 K2'.out.lt hov.out.2.1).trans K2'.out
          have K513 : Blk w13 b5 39 [v] := (T13.block b5 K5'.out.lt hov.out.2.2).trans K5'.out
          have k213 := K213.bk
          have k513 := K513.bk
          have n13 : Now w13 := trivial
          obtain ⟨S, hSe⟩ : ∃ S, S = sortI L := ⟨_, rfl⟩
          rw [← hSe] at hEf hSr hSl hS13
          have hv1 := hS13.one
          have hVK : SlK w13 w13.heap.size 1 none v S intV := (hS13.sl1 (f := intV)).k (Nat.le_refl _)
          have I13 : Hid (PlB w w13 B fb b2 f bv v s p x b S i (-1)) := ⟨by rw [set_same hun'.out hlb]; exact hO'.out.ext hx13, TBn.of_ext hx13, K213, hS13⟩
          have r13 := Ext.refl w13
          clear T13 hS13 K213 K513 hco hSe k512 R12' M12' r12
          (repeat' first
    | with_reducible first | exact ⟨⟩ | (refine gB ?_; intros) | refine gT ?_ ?_
    | refine gs ?_
    | refine sx ?_)
          refine loop_g S.length (fun g0 k g w' => g 82 = .int .i64 (k : Int) ∧ (g 1 = g0 1 ∧ g 2 = g0 2 ∧ g 80 = g0 80 ∧ g 81 = g0 81) ∧ Hid (∃ u, PlB w w' B fb b2 f bv v s p x b S i u ∧ ∀ t ∈ S.take k, Sch.poss (scS s p x) b i t = false)) KR ?_ ?_ ?_
          · (repeat' first
    | with_reducible first | exact ⟨⟩ | (refine gB ?_; intros) | refine gT ?_ ?_
    | refine gs ?_
    | refine sx ?_)
            all_goals exact ⟨_, I13.out, fun t ht => by cases ht⟩
          · rintro k m g14 w14 hk14 hlt n14 ⟨hi14, hf14, hp14⟩
            simp (maxDischargeDepth := 3) only [U, ↓reduceIte, Nat.reduceEqDiff, *] at hf14
            obtain ⟨u, P14, hno⟩ := hp14.out
            have P14' : Hid (PlB w w14 B fb b2 f bv v s p x b S i u) := P14
            have hno' : Hid (∀ t ∈ S.take k, Sch.poss (scS s p x) b i t = false) := hno
            have kf := P14.1.r.k
            have k214 := P14.2.2.1.bk
            have hVK14 : SlK w14 w14.heap.size 1 none v S intV := (P14.2.2.2.sl1 (f := intV)).k (Nat.le_refl _)
            have hlbu : i < (b.set i u).length := by rw [List.length_set]; exact hlb
            have hlen : (b.set i u).length = b.length := List.length_set ..
            have r14 := Ext.refl w14
            have hw : IntKind.i64.wrap ((k : Int) + 1) = ((k + 1 : Nat) : Int) := by have := hSl.out; rw [wrap_i64_id] <;> omega
            have hr1 := hSr.out _ (List.getElem_mem hlt)
            have hbt : Hid (BegD p (b.set i S[k])) := hb'.out.set (by omega)
            clear hp14 P14 hno k213 k513 hVK hr1 r13
            (repeat' first
    | with_reducible first | exact ⟨⟩ | (refine gB ?_; intros) | refine gT ?_ ?_
    | refine gs ?_
    | refine sx ?_)
            refine own_setE (i := i) KR P14'.out.1.own (by rw [List.length_map]; exact hlbu) rfl fun g15 w15 n15 hg15 hB15 hl15 hown15 s15 c15 => ?_
            obtain rfl : gb = g15 := Option.some.inj (hgb.symm.trans hg15)
            have P15 : Hid (PlB w w15 B fb b2 f bv v s p x b S i S[k]) := P14'.out.store hgb hgw hw2 c15 hown15
            have k215 := P15.out.2.2.1.bk
            have hps := fun w' (h2 : Ext w15 w') => frPossible hF'.out hbt.out (P15.out.1.r.ext h2) hi
            rw [poss_eq hF'.out hb'.out hi] at hps
            have r15 := Ext.refl w15
            clear hown15 c15 kf k214 hVK14 s15
            have hfnd : Hid (Sch.poss (scS s p x) b i S[k] = true → Sch.early (scS s p x) b i = some S[k]) := fun hq => by rw [hEf.out]; exact find_at hlt hno'.out hq
            cases hq : Sch.poss (scS s p x) b i S[k] <;> rw [hq] at hps hfnd
            · have hno2 : Hid (∀ t ∈ S.take (k + 1), Sch.poss (scS s p x) b i t = false) := fun t ht => by
                rw [List.take_succ_eq_append_getElem hlt] at ht
                rcases List.mem_append.1 ht with ht | ht
                · exact hno'.out t ht
                · rw [List.mem_singleton.1 ht]; exact hq
              (repeat' first
    | with_reducible first | exact ⟨⟩ | (refine gB ?_; intros) | refine gT ?_ ?_
    | refine gs ?_
    | ((with_reducible refine at_f 58 ?_); refine ret_k (hps _ FR) fun _ _ _ => ?_)
    | refine sx ?_)
              refine next_g hk14 hlt ?_
              (repeat' first
    | with_reducible first | exact ⟨⟩ | (refine gB ?_; intros) | refine gT ?_ ?_
    | refine gs ?_
    | refine sx ?_)
              all_goals exact ⟨_, P15.out.ext FR, hno2.out⟩
            · have e := hfnd.out rfl
              rw [e]
              (repeat' first
    | with_reducible first | exact ⟨⟩ | (refine gB ?_; intros) | refine gT ?_ ?_
    | refine gs ?_
    | ((with_reducible refine at_f 58 ?_); refine ret_k (hps _ FR) fun _ _ _ => ?_)
    | refine sx ?_)
              rename_i w16 n16 s16
              have hx16 : Ext w15 w16 := FR
              have F := P15.out.ext hx16
              exact ⟨by have := F.2.1; rw [hgb] at this; exact this, rfl, F.1⟩
          · rintro g14 w14 n14 ⟨hi14, hf14, hp14⟩
            simp (maxDischargeDepth := 3) only [U, ↓reduceIte, Nat.reduceEqDiff, *] at hf14
            obtain ⟨u, P14, hno⟩ := hp14.out
            have P14' : Hid (PlB w w14 B fb b2 f bv v s p x b S i u) := P14
            rw [List.take_length] at hno
            have hE : Sch.early (scS s p x) b i = none := by rw [hEf.out]; exact List.find?_eq_none.2 fun t ht => by rw [hno t ht]; simp
            rw [hE]
            have kf := P14.1.r.k
            have k214 := P14.2.2.1.bk
            have hlbu : i < (b.set i u).length := by rw [List.length_set]; exact hlb
            have hlen : (b.set i u).length = b.length := List.length_set ..
            have r14 := Ext.refl w14
            clear hp14 P14 hno k213 k513 hVK r13
            (repeat' first
    | with_reducible first | exact ⟨⟩ | (refine gB ?_; intros) | refine gT ?_ ?_
    | refine gs ?_
    | refine sx ?_)
            refine own_setE (i := i) KR P14'.out.1.own (by rw [List.length_map]; exact hlbu) rfl fun g15 w15 n15 hg15 hB15 hl15 hown15 s15 c15 => ?_
            obtain rfl : gb = g15 := Option.some.inj (hgb.symm.trans hg15)
            have P15 : Hid (PlB w w15 B fb b2 f bv v s p x b S i (-1)) := P14'.out.store hgb hgw hw2 c15 hown15
            have F15 : Hid (TBn (fun c => some gb = some c) w w15 ∧ FrO w15 B fb f bv s p x b) := by
              obtain ⟨h1, h2, _⟩ := P15.out
              rw [set_same hun'.out hlb] at h1
              rw [hgb] at h2
              exact ⟨h2, h1⟩
            clear hown15 c15 kf k214 s15 P15
            (repeat' first
    | with_reducible first | exact ⟨⟩ | (refine gB ?_; intros) | refine gT ?_ ?_
    | refine gs ?_
    | refine sx ?_)
            exact ⟨F15.out.1, rfl, F15.out.2⟩
        · have hsub := R12'.out.sub _ hin
          obtain ⟨⟨a, c⟩, hy, rfl⟩ := hS'.out.key hMn.out hsub
          have hlen : Hid ((left.filter fun p => !(p.1 == h)).length < left.length) := filter_left hin
          have M13 : Hid (MomI w b2 b5 fb x (cA4 p x b i M left) (30 + (M.length - left.length)) w13) := M12'.out.rng R12'.out c13 hrr
          have R13' : Hid (RngS w13 bm rr .i64 M (left.filter fun p => !(p.1 == h))) := R13
          have hseen : ∀ z, seenK M (left.filter fun p => !(p.1 == h)) z ↔ seenK M left z ∨ z = h := fun z => by
            unfold seenK
            rw [mem_gone]
            constructor
            · rintro ⟨h1, h2⟩
              by_cases e : z = h
              · exact .inr e
              · exact .inl ⟨h1, fun h3 => h2 ⟨h3, e⟩⟩
            · rintro (⟨h1, h2⟩ | rfl)
              · exact ⟨h1, fun h3 => h2 h3.1⟩
              · exact ⟨List.mem_map.2 ⟨_, hsub, rfl⟩, fun h3 => h3.2 rfl⟩
          have hnx : Hid _ := cA4_next (p := p) (x := x) (b := b) (i := i) hy hseen
          have hx13 : Ext w w13 := M13.out.ext
          have k213 := M13.out.k2.bk
          have r13 := Ext.refl w13
          clear c13 s13 R13 hin hseen
          (repeat' first
    | with_reducible first | exact ⟨⟩ | (refine gB ?_; intros) | refine gT ?_ ?_
    | refine gs ?_
    | refine sx ?_)
          refine entry_k hf12.2.2.2.2 hen ?_
          (repeat' first
    | with_reducible first | exact ⟨⟩ | (refine gB ?_; intros) | refine gT ?_ ?_
    | refine gs ?_
    | simp (maxDischargeDepth := 3) only [↓X, ↓Y, ↓Q, S1, ↓reduceIte, Nat.reduceEqDiff, Nat.reduceAdd, Int.reduceLT, Int.reduceLE, Int.reduceNeg, Int.reduceBEq, Int.reduceBNe, Int.reduceEq, Nat.reduceLeDiff, Nat.reduceMul, Nat.reduceLT, *, spanV]
    | simp (singlePass := true) (maxDischargeDepth := 99) only [*, S2, Nat.reduceLT, spanV])
          rename_i b14 w14 n14 k14 s14 q14 w15 n15 k15 s15
          have hx1315 : Ext w13 w15 := FR
          have M15 := M13.out.to hx1315 (Nat.le_refl _) fun _ => Iff.rfl
          refine CallsV.mono (frAdd (w := w) (cQ2 := cA4 p x b i M (left.filter fun p => !(p.1 == h))) (hr'.out.ext (hx13.trans hx1315)) hw5 M15 (by have := hMl.out; omega) hnx.out) ?_
          rintro _ w16 ⟨I16, T16⟩
          obtain ⟨_, _, v15, _, h15, _⟩ := M15
          have n16 : Now w16 := trivial
          have F16 : Hid (PlM w w16 b2 b5 fb bm rr p x b i M (left.filter fun p => !(p.1 == h))) := ⟨I16.to (Ext.refl _) (by have h1 := hll.out; have h2 := hlen.out; omega) fun _ => Iff.rfl, (R13'.out.ext hx1315).tbn h15 T16, by have h1 := hll.out; have h2 := hlen.out; omega⟩
          clear I16 T16 h15
          (repeat' first
    | with_reducible first | exact ⟨⟩ | (refine gB ?_; intros) | refine gT ?_ ?_
    | refine gs ?_
    | refine sx ?_)
          refine next_m hlen.out ?_
          (repeat' first
    | with_reducible first | exact ⟨⟩ | (refine gB ?_; intros) | refine gT ?_ ?_
    | refine gs ?_
    | refine sx ?_)
          all_goals exact F16.out
end
end Go.Proofs.YtopfddchckdhgaaGreat
