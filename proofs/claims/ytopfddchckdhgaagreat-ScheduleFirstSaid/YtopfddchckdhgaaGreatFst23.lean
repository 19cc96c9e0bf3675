
/- The statement ScheduleFirst, walked. -/
import Derived.Test.YtopfddchckdhgaaGreatFsU23
namespace Go.Proofs.YtopfddchckdhgaaGreat
set_option linter.unusedSimpArgs false
set_option linter.unusedVariables false
open Go Go.RowKit
set_option maxRecDepth 100000
set_option linter.unusedSectionVars false
set_option maxHeartbeats 2000000
theorem sxFst231 {p q : Prop} (hq : q) (h : p = q := by first | (simp (maxDischargeDepth := 3) only [↓X, ↓Y, ↓Q, S1, ↓reduceIte, Nat.reduceEqDiff, Nat.reduceAdd, Int.reduceLT, Int.reduceLE, Int.reduceNeg, Int.reduceBEq, Int.reduceBNe, Int.reduceEq, Nat.reduceLeDiff, Nat.reduceMul, Nat.reduceLT, *, breachC]; try exact rfl) | (simp (singlePass := true) (maxDischargeDepth := 99) only [*, S2, Nat.reduceLT, breachC]; try exact rfl)) : p := h ▸ hq
section
variable {w : World} {B : Nat} {r : RawD}
theorem lawScheduleFirst {gv : Value} {gl : List Int} {lt : Int} (hB : B ≤ w.heap.size) (hr : RawR w B r) (hg : Sl w B none 1 gv (gl.map b8V)) (hgb0 : ∀ n ∈ gl, b8 n) (hlt0 : b8 lt) : Ret Tryz.prog 6 #[.agg (rawC r).toArray, gv, .int .u8 lt] w (.bool true) := by
  have hn : Now w := trivial
  have hx : Ext w w := Ext.refl w
  have hr' : Hid (RawR w B r) := hr
  have o1 := hr.k.one
  have o2 := hr.h.one
  have o3 := hr.a.one
  have o4 := hr.n.one
  have o5 := hr.p.one
  have o6 := hr.d.one
  have KG := hg.k hB
  have hgb : Hid (∀ n ∈ gl, 0 ≤ n ∧ n ≤ 255) := fun n hn => hgb0 n hn
  obtain ⟨ln, rfl, hl8⟩ : ∃ ln : Nat, lt = ln ∧ ln ≤ 255 := ⟨lt.toNat, by have := hlt0.1; omega, by have := hlt0.1; have := hlt0.2; omega⟩
  clear hr hg hgb0 hlt0
  (refine callsV_of Tryz.func6 rfl KR KR ?_; rw [Tryz.results6])
  (repeat' first
    | with_reducible first | exact ⟨⟩ | (refine gB ?_; intros) | refine gT ?_ ?_
    | refine gs ?_
    | simp (maxDischargeDepth := 3) only [↓X, ↓Y, ↓Q, S1, ↓reduceIte, Nat.reduceEqDiff, Nat.reduceAdd, Int.reduceLT, Int.reduceLE, Int.reduceNeg, Int.reduceBEq, Int.reduceBNe, Int.reduceEq, Nat.reduceLeDiff, Nat.reduceMul, Nat.reduceLT, *, rawC]
    | simp (singlePass := true) (maxDischargeDepth := 99) only [*, S2, Nat.reduceLT, rawC])
  rename_i b1 w2 n2 k2 s2 q2
  have hxw2 : Ext w w2 := FR
  refine call_k (law23made (r := r) (by have := hxw2.size; omega) (hr'.out.ext hxw2 hB)) ?_
  rintro _ w3 n3 s3 ⟨hv, pv, xv, p, x, rfl, hH, hP, hT, hX, hx1, hxl⟩
  replace hx1 : Hid (x.first = 20) := hx1
  obtain ⟨c0, c1, c2, c5, u, rfl, ou⟩ := hH.cells
  obtain ⟨sv, av, vs, Bp, rfl, osv, oav, oS, _⟩ := hP.cells
  obtain ⟨wv, rv, apv, c7, Bt, rfl, owv, orv, oap, _, _, hc70, _, ht80⟩ := hT.cells
  have hc7 : Hid (Blk w3 c7 3 (x.takes.map intV)) := hc70
  have hi0 : ∀ {w' : World}, Ext w3 w' → HouV w' (.agg #[.slice (some ⟨c0, 0, none⟩) 1 1, .slice (some ⟨c1, 0, none⟩) 1 1, .slice (some ⟨c2, 0, none⟩) 1 1, .slice (some ⟨c5, 0, none⟩) 2 2, .int .i64 1, .slice none 0 0, u]) 4 := fun hx => hH.ext hx
  replace hi0 : Hid _ := @hi0
  have hi1 : ∀ {w' : World}, Ext w3 w' → PlnV w' (.agg #[sv, av]) p := fun hx => hP.ext hx
  replace hi1 : Hid _ := @hi1
  have hi2 : ∀ {w' : World}, Ext w3 w' → TmsV w' (.agg #[wv, rv, .int .i64 0, .slice none 0 0, .slice (some ⟨c7, 0, none⟩) 8 8, apv, .int .i64 x.first, .int .i64 x.last]) { x with blast := 0 } := fun hx => (hT.noBlast).ext hx
  replace hi2 : Hid _ := @hi2
  have hX0 := hX.noBlast
  have hV0 := made_valid hX0
  have hF : Hid (Fit (houseD 4) p { x with blast := 0 }) := fit_of hV0
  have hn8 : p.steps.length ≤ 8 := hX.n
  have KS := (oS.slN (f := stepC)).k (Nat.le_refl _)
  have KF := (oS.slN (f := stepC)).fk
  have bl3 : Bl w3.heap.size w3 w3 := Bl.refl (Nat.le_refl _)
  have hxw3 : Hid (Ext w w3) := show Ext w w3 by exact FR
  have hxa : Ext w w3 := hxw3.out
  clear hH hP hT hr' k2 s2 q2 s3 oS hxw2 hc70 ht80
  have s3 := hxa.st
  have r3 := Ext.refl w3
  (repeat' first
    | with_reducible first | exact ⟨⟩ | (refine gB ?_; intros) | refine gT ?_ ?_
    | refine gs ?_
    | refine sx ?_)
  rename_i b7 w4 n4 k4 s4 q4 b8 w5 n5 k5 s5 q5 b9 w6 n6 k6 s6 q6 w7 n7 k7 s7 w8 n8 k8 s8 w9 n9 k9 s9
  refine st_one (i := 2) KR (by simp) rfl fun wa na ka sa => ?_
  simp only [List.set_cons_zero, List.set_cons_succ] at ka
  have hx3a : Ext w3 wa := FR
  rcases make_cases hX0 with ⟨b, hm, hmt, hmk⟩ | ⟨i, hm, hi, bb, hmk⟩
  · have hbl : Hid (b.length = p.steps.length) := hmt.len
    have hbr : Hid (∀ n ∈ b, 0 ≤ n ∧ n ≤ 275) := fun n hn => by
      obtain ⟨i, hi, rfl⟩ := List.getElem_of_mem hn
      have hi' : i < p.steps.length := by rw [← hmt.len]; exact hi
      obtain ⟨h1, h2, _⟩ := hmt.at_ hi'
      have h1' : x.first ≤ Sch.at_ b i := h1
      have h2' : Sch.at_ b i + takeS p { x with blast := 0 } i ≤ x.last := h2
      rw [at_at hi] at h1' h2'
      have := hF.out.take i hi'
      have := hx1.out
      omega
    generalize Sch.stop (scS (houseD 4) p { x with blast := 0 }) b = stp at *
    (repeat' first
    | with_reducible first | exact ⟨⟩ | (refine gB ?_; intros) | refine gT ?_ ?_
    | refine gs ?_
    | refine sx ?_)
    refine call_k (mk_of (hi0.out hx3a) (hi1.out hx3a) (hi2.out hx3a) hX0 hm) ?_
    rintro _ wm nm sm ⟨tv, rfl, ho⟩
    have otv := ho.one
    have rm := Ext.refl wm
    have hTV := (ho.sl1 (f := intV)).k (Nat.le_refl _)
    have blm : Bl wm.heap.size wm wm := Bl.refl (Nat.le_refl _)
    have hne1 : ((b.length : Int) == (p.steps.length : Int)) = true := by rw [hbl.out]; simp
    have hne2 : ((b.length : Int) != (p.steps.length : Int)) = false := by rw [hbl.out]; simp
    clear hm
    (repeat' first
    | with_reducible first | exact ⟨⟩ | (refine gB ?_; intros) | refine gT ?_ ?_
    | refine gs ?_
    | refine sx ?_)
    rename_i b10 w10 n10 k10 s10 q10 w11 n11 k11 s11 b13 wq nq kq sq qq
    have hx3q : Ext w3 wq := FR
    have hmq : Ext wm wq := FR
    have hl13 : b13 < wq.heap.size := kq.2.2.2.1
    have hw13 : w3.heap.size ≤ b13 := FR
    have K7 : Blk wq b7 29 [.slice (some ⟨c0, 0, none⟩) 1 1, .slice (some ⟨c1, 0, none⟩) 1 1, .slice (some ⟨c2, 0, none⟩) 1 1, .slice (some ⟨c5, 0, none⟩) 2 2, .int .i64 1, .slice none 0 0, u] := k7.2.1 _ FR
    have K8 : Blk wq b8 33 [sv, av] := k8.2.1 _ FR
    have K9 : Blk wq b9 41 [wv, rv, .int .i64 0, .slice none 0 0, .slice (some ⟨c7, 0, none⟩) 8 8, apv, .int .i64 x.first, .int .i64 x.last] := ka.2.1 _ FR
    have K10 : Blk wq b10 45 [tv, .int .i64 stp] := k11.2.1 _ FR
    have K13 : Blk wq b13 45 [.slice none 0 0, .int .i64 0] := kq.2.1 _ kq.2.2.1
    have hn13 : ¬ b10 = b13 := by have h1 : b10 < w11.heap.size := FR; have h2 : w11.heap.size ≤ b13 := FR; omega
    have HO : Own wq wa.heap.size 3 1 tv (b.map intC) := ho.ext hmq
    have hS : Hid (FsS w3 b10 b13 tv wq.heap.size) := ⟨⟨hw13, hl13⟩, hx3q.size, hn13, fun c hc => (HO.lt c hc).2⟩
    have I0 : Hid (FsI w3 b7 b8 b9 b10 b13 [.slice (some ⟨c0, 0, none⟩) 1 1, .slice (some ⟨c1, 0, none⟩) 1 1, .slice (some ⟨c2, 0, none⟩) 1 1, .slice (some ⟨c5, 0, none⟩) 2 2, .int .i64 1, .slice none 0 0, u] [sv, av] [wv, rv, .int .i64 0, .slice none 0 0, .slice (some ⟨c7, 0, none⟩) 8 8, apv, .int .i64 x.first, .int .i64 x.last] [tv, .int .i64 stp] tv b wa.heap.size wq.heap.size 0 0 wq) := ⟨hx3q, K7, K8, K9, K10, Nat.le_refl _, HO, _, [], K13, Own.nil _ _ _ _, rfl, by simp⟩
    clear K7 K8 K9 K10 K13 HO hn13 hw13 hl13 hmq ho k4 k5 k6 k7 k8 k9 ka k10 k11 kq s4 s5 s6 s7 s8 s9 sa sm s10 s11 sq q4 q5 q6 q10 qq s3 hxa bl3 hTV blm
    refine loop_g p.steps.length (fun g0 k g w' => g 14 = .int .i64 (k : Int) ∧ (g 1 = g0 1 ∧ g 2 = g0 2 ∧ g 7 = g0 7 ∧ g 8 = g0 8 ∧ g 9 = g0 9 ∧ g 10 = g0 10 ∧ g 12 = g0 12 ∧ g 13 = g0 13) ∧ Hid (FsI w3 b7 b8 b9 b10 b13 [.slice (some ⟨c0, 0, none⟩) 1 1, .slice (some ⟨c1, 0, none⟩) 1 1, .slice (some ⟨c2, 0, none⟩) 1 1, .slice (some ⟨c5, 0, none⟩) 2 2, .int .i64 1, .slice none 0 0, u] [sv, av] [wv, rv, .int .i64 0, .slice none 0 0, .slice (some ⟨c7, 0, none⟩) 8 8, apv, .int .i64 x.first, .int .i64 x.last] [tv, .int .i64 stp] tv b wa.heap.size wq.heap.size k 0 w')) KR ?_ ?_ ?_
    · (repeat' first
    | with_reducible first | exact ⟨⟩ | (refine gB ?_; intros) | refine gT ?_ ?_
    | refine gs ?_
    | refine sx ?_)
      all_goals exact I0.out
    · clear I0
      rintro k m g3 wk hk3 hlt n3 ⟨hi3, hf3, hp3⟩
      simp (maxDischargeDepth := 3) only [U, ↓reduceIte, Nat.reduceEqDiff, *] at hf3
      have I3 : Hid (FsI w3 b7 b8 b9 b10 b13 [.slice (some ⟨c0, 0, none⟩) 1 1, .slice (some ⟨c1, 0, none⟩) 1 1, .slice (some ⟨c2, 0, none⟩) 1 1, .slice (some ⟨c5, 0, none⟩) 2 2, .int .i64 1, .slice none 0 0, u] [sv, av] [wv, rv, .int .i64 0, .slice none 0 0, .slice (some ⟨c7, 0, none⟩) 8 8, apv, .int .i64 x.first, .int .i64 x.last] [tv, .int .i64 stp] tv b wa.heap.size wq.heap.size k 0 wk) := hp3
      have hx3k : Ext w3 wk := I3.out.ext
      have hxk : Ext w wk := hxw3.out.trans hx3k
      have sk := hxk.st
      have rk := Ext.refl wk
      have blk : Bl w3.heap.size w3 wk := ⟨Nat.le_refl _, hx3k⟩
      have blg : Bl B w wk := (Bl.refl hB).ext hxk
      have k8 := I3.out.k8.bk
      have k10 := I3.out.k10.bk
      obtain ⟨ov, l, r1, r2, r3⟩ := I3.out.row
      have k13 := r1.bk
      have hqk : wq.heap.size ≤ wk.heap.size := I3.out.size
      have r1' : Hid (Blk wk b13 45 [ov, .int .i64 0]) := r1
      have r2' : Hid (Own wk wq.heap.size 3 1 ov (l.map intC)) := r2
      have r3' : Hid _ := r3
      have hov := r2.one
      have hw : IntKind.i64.wrap ((k : Int) + 1) = ((k + 1 : Nat) : Int) := by rw [wrap_i64_id] <;> omega
      clear hp3 r1 r2 r3
      by_cases hkg : k < gl.length
      · have hkgI : (k : Int) < (gl.length : Int) := by omega
        obtain ⟨gn, hgn⟩ : ∃ gn : Nat, gl[k] = gn := ⟨(gl[k]).toNat, by have := (hgb.out _ (List.getElem_mem hkg)).1; omega⟩
        have hg8 : gn ≤ 255 := by have := (hgb.out _ (List.getElem_mem hkg)).2; omega
        have hwl : IntKind.i64.wrap (ln : Int) = (ln : Int) := wrap_nat (by omega)
        have hwg : IntKind.i64.wrap (gn : Int) = (gn : Int) := wrap_nat (by omega)
        have hw20 : IntKind.i64.wrap ((ln : Int) + 20) = ((ln + 20 : Nat) : Int) := by rw [wrap_i64_id] <;> omega
        have hwlg : IntKind.i64.wrap (((ln + 20 : Nat) : Int) + (gn : Int)) = ((ln + 20 + gn : Nat) : Int) := by rw [wrap_i64_id] <;> omega
        (repeat' first
    | with_reducible first | exact ⟨⟩ | (refine gB ?_; intros) | refine gT ?_ ?_
    | refine gs ?_
    | simp (maxDischargeDepth := 3) only [↓X, ↓Y, ↓Q, S1, ↓reduceIte, Nat.reduceEqDiff, Nat.reduceAdd, Int.reduceLT, Int.reduceLE, Int.reduceNeg, Int.reduceBEq, Int.reduceBNe, Int.reduceEq, Nat.reduceLeDiff, Nat.reduceMul, Nat.reduceLT, *, b8V, hgn, hwl, hwg, hw20, hwlg]
    | simp (singlePass := true) (maxDischargeDepth := 99) only [*, S2, Nat.reduceLT, b8V, hgn, hwl, hwg, hw20, hwlg])
        rename_i bx wx nx kx sx9 qx zx
        clear zx
        have Kx : Blk wx bx 3 (intC ((ln + 20 + gn : Nat) : Int)) := kx.2.1 _ kx.2.2.1
        have hxx : Ext wk wx := FR
        refine appG (e := 3) (sz := 1) (by_ := 8) (z := .int .i64 0) (c := intC) ((ln + 20 + gn : Nat) : Int) KR KR rfl (by decide) (by decide) (r2'.out.ext hxx) Kx rfl (by simp [intC, intV, one_int]) (by have h9 := r3'.out.1; omega) (Nat.le_trans hqk hxx.size) fun v' wy ny Ty hoy => ?_
        have hv1 := hoy.one
        have Ky : Blk wy b13 45 [ov, .int .i64 0] := (Ty.block b13 (r1'.out.ext hxx).lt (r2'.out.ne r1'.out (by decide))).trans (r1'.out.ext hxx)
        have ky := Ky.bk
        have G : Hid (∀ wz, Blk wz b13 45 [v', .int .i64 0] → Chg wy wz b13 → FsI w3 b7 b8 b9 b10 b13 [.slice (some ⟨c0, 0, none⟩) 1 1, .slice (some ⟨c1, 0, none⟩) 1 1, .slice (some ⟨c2, 0, none⟩) 1 1, .slice (some ⟨c5, 0, none⟩) 2 2, .int .i64 1, .slice none 0 0, u] [sv, av] [wv, rv, .int .i64 0, .slice none 0 0, .slice (some ⟨c7, 0, none⟩) 8 8, apv, .int .i64 x.first, .int .i64 x.last] [tv, .int .i64 stp] tv b wa.heap.size wq.heap.size (k + 1) 0 wz) := fun wz hz cz => FsI.grow hS.out I3.out r1'.out r2'.out r3'.out hxx Ty hoy cz hz ⟨by omega, by omega⟩
        clear Ty hoy Ky Kx kx sx9 qx k13 k10 k8 I3 r1' r2' r3' hxx hqk sk
        (repeat' first
    | with_reducible first | exact ⟨⟩ | (refine gB ?_; intros) | refine gT ?_ ?_
    | refine gs ?_
    | refine sx ?_)
        refine fun hb => store_intro (i := 0) KR hb (by simp) hv1 fun wz hbz cz => ?_
        have nz : Now wz := trivial
        simp only [List.set_cons_zero] at hbz
        have I4 : Hid (FsI w3 b7 b8 b9 b10 b13 [.slice (some ⟨c0, 0, none⟩) 1 1, .slice (some ⟨c1, 0, none⟩) 1 1, .slice (some ⟨c2, 0, none⟩) 1 1, .slice (some ⟨c5, 0, none⟩) 2 2, .int .i64 1, .slice none 0 0, u] [sv, av] [wv, rv, .int .i64 0, .slice none 0 0, .slice (some ⟨c7, 0, none⟩) 8 8, apv, .int .i64 x.first, .int .i64 x.last] [tv, .int .i64 stp] tv b wa.heap.size wq.heap.size (k + 1) 0 wz) := G.out wz hbz cz
        clear hbz cz G ky
        (repeat' first
    | with_reducible first | exact ⟨⟩ | (refine gB ?_; intros) | refine gT ?_ ?_
    | refine gs ?_
    | refine sx ?_)
        refine next_g hk3 hlt ?_
        (repeat' first
    | with_reducible first | exact ⟨⟩ | (refine gB ?_; intros) | refine gT ?_ ?_
    | refine gs ?_
    | refine sx ?_)
        all_goals exact I4.out
      · have hkgI : ¬ (k : Int) < (gl.length : Int) := by omega
        have hkb : k < b.length := by rw [hbl.out]; exact hlt
        have hkbI : (k : Int) < (b.length : Int) := by omega
        obtain ⟨bn, hbn, hb8⟩ : ∃ bn : Nat, b[k] = bn ∧ bn ≤ 275 := ⟨(b[k]).toNat, by have := hbr.out _ (List.getElem_mem hkb); omega, by have := hbr.out _ (List.getElem_mem hkb); omega⟩
        have hTV := (I3.out.tv.sl1 (f := intV)).k (Nat.le_refl _)
        have blm : Bl wk.heap.size wk wk := Bl.refl (Nat.le_refl _)
        have hwl : IntKind.i64.wrap (ln : Int) = (ln : Int) := wrap_nat (by omega)
        have hwlb : IntKind.i64.wrap ((ln : Int) + (bn : Int)) = ((ln + bn : Nat) : Int) := by rw [wrap_i64_id] <;> omega
        (repeat' first
    | with_reducible first | exact ⟨⟩ | (refine gB ?_; intros) | refine gT ?_ ?_
    | refine gs ?_
    | simp (maxDischargeDepth := 3) only [↓X, ↓Y, ↓Q, S1, ↓reduceIte, Nat.reduceEqDiff, Nat.reduceAdd, Int.reduceLT, Int.reduceLE, Int.reduceNeg, Int.reduceBEq, Int.reduceBNe, Int.reduceEq, Nat.reduceLeDiff, Nat.reduceMul, Nat.reduceLT, *, hbn, hwl, hwlb]
    | simp (singlePass := true) (maxDischargeDepth := 99) only [*, S2, Nat.reduceLT, hbn, hwl, hwlb])
        clear hTV blm
        rename_i bx wx nx kx sx9 qx zx
        clear zx
        have Kx : Blk wx bx 3 (intC ((ln + bn : Nat) : Int)) := kx.2.1 _ kx.2.2.1
        have hxx : Ext wk wx := FR
        refine appG (e := 3) (sz := 1) (by_ := 8) (z := .int .i64 0) (c := intC) ((ln + bn : Nat) : Int) KR KR rfl (by decide) (by decide) (r2'.out.ext hxx) Kx rfl (by simp [intC, intV, one_int]) (by have h9 := r3'.out.1; omega) (Nat.le_trans hqk hxx.size) fun v' wy ny Ty hoy => ?_
        have hv1 := hoy.one
        have Ky : Blk wy b13 45 [ov, .int .i64 0] := (Ty.block b13 (r1'.out.ext hxx).lt (r2'.out.ne r1'.out (by decide))).trans (r1'.out.ext hxx)
        have ky := Ky.bk
        have G : Hid (∀ wz, Blk wz b13 45 [v', .int .i64 0] → Chg wy wz b13 → FsI w3 b7 b8 b9 b10 b13 [.slice (some ⟨c0, 0, none⟩) 1 1, .slice (some ⟨c1, 0, none⟩) 1 1, .slice (some ⟨c2, 0, none⟩) 1 1, .slice (some ⟨c5, 0, none⟩) 2 2, .int .i64 1, .slice none 0 0, u] [sv, av] [wv, rv, .int .i64 0, .slice none 0 0, .slice (some ⟨c7, 0, none⟩) 8 8, apv, .int .i64 x.first, .int .i64 x.last] [tv, .int .i64 stp] tv b wa.heap.size wq.heap.size (k + 1) 0 wz) := fun wz hz cz => FsI.grow hS.out I3.out r1'.out r2'.out r3'.out hxx Ty hoy cz hz ⟨by omega, by omega⟩
        clear Ty hoy Ky Kx kx sx9 qx k13 k10 k8 I3 r1' r2' r3' hxx hqk sk
        (repeat' first
    | with_reducible first | exact ⟨⟩ | (refine gB ?_; intros) | refine gT ?_ ?_
    | refine gs ?_
    | refine sx ?_)
        refine fun hb => store_intro (i := 0) KR hb (by simp) hv1 fun wz hbz cz => ?_
        have nz : Now wz := trivial
        simp only [List.set_cons_zero] at hbz
        have I4 : Hid (FsI w3 b7 b8 b9 b10 b13 [.slice (some ⟨c0, 0, none⟩) 1 1, .slice (some ⟨c1, 0, none⟩) 1 1, .slice (some ⟨c2, 0, none⟩) 1 1, .slice (some ⟨c5, 0, none⟩) 2 2, .int .i64 1, .slice none 0 0, u] [sv, av] [wv, rv, .int .i64 0, .slice none 0 0, .slice (some ⟨c7, 0, none⟩) 8 8, apv, .int .i64 x.first, .int .i64 x.last] [tv, .int .i64 stp] tv b wa.heap.size wq.heap.size (k + 1) 0 wz) := G.out wz hbz cz
        clear hbz cz G ky
        (repeat' first
    | with_reducible first | exact ⟨⟩ | (refine gB ?_; intros) | refine gT ?_ ?_
    | refine gs ?_
    | refine sx ?_)
        refine next_g hk3 hlt ?_
        (repeat' first
    | with_reducible first | exact ⟨⟩ | (refine gB ?_; intros) | refine gT ?_ ?_
    | refine gs ?_
    | refine sx ?_)
        all_goals exact I4.out
    · clear I0
      rintro g3 wk n3 ⟨hi3, hf3, hp3⟩
      simp (maxDischargeDepth := 3) only [U, ↓reduceIte, Nat.reduceEqDiff, *] at hf3
      have I3 : Hid (FsI w3 b7 b8 b9 b10 b13 [.slice (some ⟨c0, 0, none⟩) 1 1, .slice (some ⟨c1, 0, none⟩) 1 1, .slice (some ⟨c2, 0, none⟩) 1 1, .slice (some ⟨c5, 0, none⟩) 2 2, .int .i64 1, .slice none 0 0, u] [sv, av] [wv, rv, .int .i64 0, .slice none 0 0, .slice (some ⟨c7, 0, none⟩) 8 8, apv, .int .i64 x.first, .int .i64 x.last] [tv, .int .i64 stp] tv b wa.heap.size wq.heap.size p.steps.length 0 wk) := hp3
      have hx3k : Ext w3 wk := I3.out.ext
      have hxk : Ext w wk := hxw3.out.trans hx3k
      have sk := hxk.st
      have rk := Ext.refl wk
      have blk : Bl w3.heap.size w3 wk := ⟨Nat.le_refl _, hx3k⟩
      have blg : Bl B w wk := (Bl.refl hB).ext hxk
      have k8 := I3.out.k8.bk
      have k10 := I3.out.k10.bk
      obtain ⟨ov, l, r1, r2, r3⟩ := I3.out.row
      have k13 := r1.bk
      have hqk : wq.heap.size ≤ wk.heap.size := I3.out.size
      have r1' : Hid (Blk wk b13 45 [ov, .int .i64 0]) := r1
      have r2' : Hid (Own wk wq.heap.size 3 1 ov (l.map intC)) := r2
      have r3' : Hid _ := r3
      have hov := r2.one
      have k9 := I3.out.k9.bk
      clear hp3 r1 r2 r3
      (repeat' first
    | with_reducible first | exact ⟨⟩ | (refine gB ?_; intros) | refine gT ?_ ?_
    | refine gs ?_
    | refine sx ?_)
      refine fun hb => store_intro (i := 1) KR hb (by simp) rfl fun wz hbz cz => ?_
      have nz : Now wz := trivial
      simp only [List.set_cons_zero, List.set_cons_succ] at hbz
      have I4 : Hid (FsI w3 b7 b8 b9 b10 b13 [.slice (some ⟨c0, 0, none⟩) 1 1, .slice (some ⟨c1, 0, none⟩) 1 1, .slice (some ⟨c2, 0, none⟩) 1 1, .slice (some ⟨c5, 0, none⟩) 2 2, .int .i64 1, .slice none 0 0, u] [sv, av] [wv, rv, .int .i64 0, .slice none 0 0, .slice (some ⟨c7, 0, none⟩) 8 8, apv, .int .i64 x.first, .int .i64 x.last] [tv, .int .i64 stp] tv b wa.heap.size wq.heap.size p.steps.length x.first wz) := FsI.box hS.out I3.out r2'.out r3'.out r1'.out cz hbz
      clear hbz cz k8 k9 k10 k13 I3 r1' r2' r3' blk blg hqk hxk sk hx3k rk hov
      (repeat' first
    | with_reducible first | exact ⟨⟩ | (refine gB ?_; intros) | refine gT ?_ ?_
    | refine gs ?_
    | refine sx ?_)
      refine loop_g p.steps.length (fun g0 k g w' => g 16 = .int .i64 (k : Int) ∧ (g 7 = g0 7 ∧ g 8 = g0 8 ∧ g 9 = g0 9 ∧ g 10 = g0 10 ∧ g 12 = g0 12 ∧ g 13 = g0 13) ∧ ∃ e : Int, Hid (FsI w3 b7 b8 b9 b10 b13 [.slice (some ⟨c0, 0, none⟩) 1 1, .slice (some ⟨c1, 0, none⟩) 1 1, .slice (some ⟨c2, 0, none⟩) 1 1, .slice (some ⟨c5, 0, none⟩) 2 2, .int .i64 1, .slice none 0 0, u] [sv, av] [wv, rv, .int .i64 0, .slice none 0 0, .slice (some ⟨c7, 0, none⟩) 8 8, apv, .int .i64 x.first, .int .i64 x.last] [tv, .int .i64 stp] tv b wa.heap.size wq.heap.size p.steps.length e w')) KR ?_ ?_ ?_
      · (repeat' first
    | with_reducible first | exact ⟨⟩ | (refine gB ?_; intros) | refine gT ?_ ?_
    | refine gs ?_
    | refine sx ?_)
        all_goals exact ⟨_, I4.out⟩
      · clear I4
        rintro k m g3 wk hk3 hlt n3 ⟨hi3, hf3, e, hp3⟩
        simp (maxDischargeDepth := 3) only [U, ↓reduceIte, Nat.reduceEqDiff, *] at hf3
        have I3 : Hid (FsI w3 b7 b8 b9 b10 b13 [.slice (some ⟨c0, 0, none⟩) 1 1, .slice (some ⟨c1, 0, none⟩) 1 1, .slice (some ⟨c2, 0, none⟩) 1 1, .slice (some ⟨c5, 0, none⟩) 2 2, .int .i64 1, .slice none 0 0, u] [sv, av] [wv, rv, .int .i64 0, .slice none 0 0, .slice (some ⟨c7, 0, none⟩) 8 8, apv, .int .i64 x.first, .int .i64 x.last] [tv, .int .i64 stp] tv b wa.heap.size wq.heap.size p.steps.length e wk) := hp3
        have hx3k : Ext w3 wk := I3.out.ext
        have hxk : Ext w wk := hxw3.out.trans hx3k
        have sk := hxk.st
        have rk := Ext.refl wk
        have blk : Bl w3.heap.size w3 wk := ⟨Nat.le_refl _, hx3k⟩
        have blg : Bl B w wk := (Bl.refl hB).ext hxk
        have k8 := I3.out.k8.bk
        have k10 := I3.out.k10.bk
        obtain ⟨ov, l, r1, r2, r3⟩ := I3.out.row
        have k13 := r1.bk
        have hqk : wq.heap.size ≤ wk.heap.size := I3.out.size
        have r1' : Hid (Blk wk b13 45 [ov, .int .i64 e]) := r1
        have r2' : Hid (Own wk wq.heap.size 3 1 ov (l.map intC)) := r2
        have r3' : Hid _ := r3
        have hov := r2.one
        have k9 := I3.out.k9.bk
        have hw : IntKind.i64.wrap ((k : Int) + 1) = ((k + 1 : Nat) : Int) := by rw [wrap_i64_id] <;> omega
        have KO := (r2.sl1 (f := intV)).k (Nat.le_refl _)
        have blo : Bl wk.heap.size wk wk := Bl.refl (Nat.le_refl _)
        have hkl : k < l.length := by rw [r3.1]; exact hlt
        have hklI : (k : Int) < (l.length : Int) := by omega
        have hlr : 0 ≤ l[k] ∧ l[k] ≤ 1000 := r3.2 _ (List.getElem_mem hkl)
        obtain ⟨kn, hkn, hkx, htke, hk1, hk7⟩ := kind_nat hF.out hlt
        have htk8 : kn < 8 := by omega
        have htr := hF.out.take k hlt
        have hkc7 : Blk wk c7 3 (x.takes.map intV) := hc7.out.ext hx3k
        have k97 := hkc7.bk
        obtain ⟨tn, htn, htn9⟩ : ∃ tn : Int, (x.takes.map intV)[kn]? = some (.int .i64 tn) ∧ (1 ≤ tn ∧ tn ≤ 1000) := ⟨takeS p x k, by
          have hkx' : kn < x.takes.length := hkx
          have h0 : takeS p x k = x.takes[kn] := by
            have h00 : takeS p x k = x.takes.getD kn 0 := htke
            rw [h00, List.getD_eq_getElem?_getD, List.getElem?_eq_getElem hkx', Option.getD_some]
          rw [List.getElem?_map, List.getElem?_eq_getElem hkx', h0]; rfl, htr⟩
        have hws : IntKind.i64.wrap (l[k] + tn) = l[k] + tn := by rw [wrap_i64_id] <;> omega
        have hkn0 : (0 : Int) ≤ (kn : Int) := Int.natCast_nonneg kn
        have hkn8 : (kn : Int) < 8 := by omega
        clear hp3 r1 r2 r3 hkc7 htke htr hkx hx3k
        (repeat' first
    | ((with_reducible refine wpd_at 20 ?_); refine wpd_tail 20 KR KR KR ?_)
    | with_reducible first | exact ⟨⟩ | (refine gB ?_; intros) | refine gT ?_ ?_
    | refine gs ?_
    | simp (maxDischargeDepth := 3) only [↓X, ↓Y, ↓Q, S1, ↓reduceIte, Nat.reduceEqDiff, Nat.reduceAdd, Int.reduceLT, Int.reduceLE, Int.reduceNeg, Int.reduceBEq, Int.reduceBNe, Int.reduceEq, Nat.reduceLeDiff, Nat.reduceMul, Nat.reduceLT, *, stepV, stepC, hkn, htn, hws]
    | simp (singlePass := true) (maxDischargeDepth := 99) only [*, S2, Nat.reduceLT, stepV, stepC, hkn, htn, hws])
        rename_i wu nu su
        have hxu : Ext wk wu := FR
        have I5 := I3.out.ext_ hxu
        refine fun hb => store_intro (i := 1) KR hb (by simp) rfl fun wz hbz cz => ?_
        have nz : Now wz := trivial
        simp only [List.set_cons_zero, List.set_cons_succ] at hbz
        have I6 : Hid (∃ e', FsI w3 b7 b8 b9 b10 b13 [.slice (some ⟨c0, 0, none⟩) 1 1, .slice (some ⟨c1, 0, none⟩) 1 1, .slice (some ⟨c2, 0, none⟩) 1 1, .slice (some ⟨c5, 0, none⟩) 2 2, .int .i64 1, .slice none 0 0, u] [sv, av] [wv, rv, .int .i64 0, .slice none 0 0, .slice (some ⟨c7, 0, none⟩) 8 8, apv, .int .i64 x.first, .int .i64 x.last] [tv, .int .i64 stp] tv b wa.heap.size wq.heap.size p.steps.length e' wz) := ⟨_, FsI.box hS.out I5 (r2'.out.ext hxu) r3'.out (r1'.out.ext hxu) cz hbz⟩
        clear hbz cz k8 k9 k10 k13 I3 I5 r1' r2' r3' blk blg hqk hxk sk rk hov KO blo k97 su hxu
        (repeat' first
    | with_reducible first | exact ⟨⟩ | (refine gB ?_; intros) | refine gT ?_ ?_
    | refine gs ?_
    | refine sx ?_)
        refine next_g hk3 hlt ?_
        (repeat' first
    | with_reducible first | exact ⟨⟩ | (refine gB ?_; intros) | refine gT ?_ ?_
    | refine gs ?_
    | refine sx ?_)
        all_goals exact I6.out
      · clear I4
        rintro g3 wk n3 ⟨hi3, hf3, e, hp3⟩
        simp (maxDischargeDepth := 3) only [U, ↓reduceIte, Nat.reduceEqDiff, *] at hf3
        have I3 : Hid (FsI w3 b7 b8 b9 b10 b13 [.slice (some ⟨c0, 0, none⟩) 1 1, .slice (some ⟨c1, 0, none⟩) 1 1, .slice (some ⟨c2, 0, none⟩) 1 1, .slice (some ⟨c5, 0, none⟩) 2 2, .int .i64 1, .slice none 0 0, u] [sv, av] [wv, rv, .int .i64 0, .slice none 0 0, .slice (some ⟨c7, 0, none⟩) 8 8, apv, .int .i64 x.first, .int .i64 x.last] [tv, .int .i64 stp] tv b wa.heap.size wq.heap.size p.steps.length e wk) := hp3
        have hx3k : Ext w3 wk := I3.out.ext
        have hxk : Ext w wk := hxw3.out.trans hx3k
        have sk := hxk.st
        have rk := Ext.refl wk
        have blk : Bl w3.heap.size w3 wk := ⟨Nat.le_refl _, hx3k⟩
        have blg : Bl B w wk := (Bl.refl hB).ext hxk
        have k8 := I3.out.k8.bk
        have k10 := I3.out.k10.bk
        obtain ⟨ov, l, r1, r2, r3⟩ := I3.out.row
        have k13 := r1.bk
        have hqk : wq.heap.size ≤ wk.heap.size := I3.out.size
        have r1' : Hid (Blk wk b13 45 [ov, .int .i64 e]) := r1
        have r2' : Hid (Own wk wq.heap.size 3 1 ov (l.map intC)) := r2
        have r3' : Hid _ := r3
        have hov := r2.one
        have k7 := I3.out.k7.bk
        have k9 := I3.out.k9.bk
        obtain ⟨br, f, hck⟩ : ∃ br f, checkS (houseD 4) p { x with blast := 0 } ⟨l, e⟩ = (br, f) := ⟨_, _, rfl⟩
        have htb : tableT p ⟨l, e⟩ = true := by
          simp only [tableT, Bool.and_eq_true, decide_eq_true_eq, List.all_eq_true, btw]
          exact ⟨r3.1, fun n hn => by have := r3.2 n hn; omega⟩
        have hf : f = 0 ∨ f = 13 := by
          have h9 := check_err (x := { x with blast := 0 }) (t := ⟨l, e⟩) hV0 htb
          rw [hck] at h9
          exact h9
        have H0 := hi0.out hx3k
        have H1 := hi1.out hx3k
        have H2 := hi2.out hx3k
        have hR2 : Hid (Own wk wq.heap.size 3 1 ov (l.map intC)) := r2
        clear hp3 r1 r2
        rcases hf with rfl | rfl
        · have hA9 := (check_allowed (t := ⟨l, e⟩) (by rw [hck])).2.2
          obtain ⟨rr, g1, g2⟩ := first_le hV0 rfl hA9
          rw [hmk] at g1
          obtain rfl := (Prod.mk.inj g1).1
          have hll : Hid (l.length = p.steps.length ∧ ∀ k (h1 : k < l.length) (h2 : k < b.length), ¬ l[k] < b[k]) := ⟨r3.1, fun k h1 h2 => by
            have h9 := g2 k (by rw [← hbl.out]; exact h2)
            rw [at_at h1, at_at h2] at h9
            omega⟩
          have KO := (r2'.out.sl1 (f := intV)).k (Nat.le_refl _)
          have KT := (I3.out.tv.sl1 (f := intV)).k (Nat.le_refl _)
          have blo : Bl wk.heap.size wk wk := Bl.refl (Nat.le_refl _)
          clear g1 g2 hA9 r3 r1' r2' r3' htb
          (repeat' first
    | with_reducible first | exact ⟨⟩ | (refine gB ?_; intros) | refine gT ?_ ?_
    | refine gs ?_
    | refine sx ?_)
          refine ret_k (ck_of H0 H1 H2 hX0 hR2.out hck) fun w12 n12 s12 => ?_
          clear H0 H1 H2 hck hR2 I3
          (repeat' first
    | with_reducible first | exact ⟨⟩ | (refine gB ?_; intros) | refine gT ?_ ?_
    | refine gs ?_
    | refine sxFst231 ?_)
          refine loop_k (p.steps.length) (fun g0 k g _ => g 19 = .int .i64 k ∧ (g 8 = g0 8 ∧ g 10 = g0 10 ∧ g 13 = g0 13) ∧ True) KR ((by omega)) ?_ ?_ ?_
          · (repeat' first
    | with_reducible first | exact ⟨⟩ | (refine gB ?_; intros) | refine gT ?_ ?_
    | refine gs ?_
    | simp (maxDischargeDepth := 3) only [↓X, ↓Y, ↓Q, S1, ↓reduceIte, Nat.reduceEqDiff, Nat.reduceAdd, Int.reduceLT, Int.reduceLE, Int.reduceNeg, Int.reduceBEq, Int.reduceBNe, Int.reduceEq, Nat.reduceLeDiff, Nat.reduceMul, Nat.reduceLT, *, List.take_zero, List.all_nil, List.any_nil]
    | simp (singlePass := true) (maxDischargeDepth := 99) only [*, S2, Nat.reduceLT, List.take_zero, List.all_nil, List.any_nil])
          · rintro k m g wk hk hlt _ _ _ hw ⟨hi, hf, hp⟩
            simp (maxDischargeDepth := 3) only [U, ↓reduceIte, Nat.reduceEqDiff, *] at hf
            have hkl : k < l.length := by rw [hll.out.1]; exact hlt
            have hkb : k < b.length := by rw [hbl.out]; exact hlt
            have hklI : (k : Int) < (l.length : Int) := by omega
            have hkbI : (k : Int) < (b.length : Int) := by omega
            have hlb := hll.out.2 k hkl hkb
            (repeat' first
    | with_reducible first | exact ⟨⟩ | (refine gB ?_; intros) | refine gT ?_ ?_
    | refine gs ?_
    | refine sx ?_)
            refine next_k hk hlt ?_ FR
            (repeat' first
    | with_reducible first | exact ⟨⟩ | (refine gB ?_; intros) | refine gT ?_ ?_
    | refine gs ?_
    | refine sx ?_)
          · rintro g wk _ _ _ ⟨hi, hf, hp⟩
            simp (maxDischargeDepth := 3) only [U, ↓reduceIte, Nat.reduceEqDiff, *] at hf
            (repeat' first
    | with_reducible first | exact ⟨⟩ | (refine gB ?_; intros) | refine gT ?_ ?_
    | refine gs ?_
    | ((with_reducible refine at_f 10 ?_); refine ret_k (law23awake) fun _ _ _ => ?_)
    | refine sx ?_)
        · clear r3 r1' r2' r3' htb
          (repeat' first
    | with_reducible first | exact ⟨⟩ | (refine gB ?_; intros) | refine gT ?_ ?_
    | refine gs ?_
    | refine sx ?_)
          refine ret_k (ck_of H0 H1 H2 hX0 hR2.out hck) fun w12 n12 s12 => ?_
          clear H0 H1 H2 hck hR2 I3
          (repeat' first
    | with_reducible first | exact ⟨⟩ | (refine gB ?_; intros) | refine gT ?_ ?_
    | refine gs ?_
    | ((with_reducible refine at_f 10 ?_); refine ret_k (law23awake) fun _ _ _ => ?_)
    | refine sxFst231 ?_)
  · (repeat' first
    | with_reducible first | exact ⟨⟩ | (refine gB ?_; intros) | refine gT ?_ ?_
    | refine gs ?_
    | refine sx ?_)
    refine call_k (mk_of (hi0.out hx3a) (hi1.out hx3a) (hi2.out hx3a) hX0 hm) ?_
    rintro _ wm nm sm ⟨tv, rfl, ho⟩
    have otv := ho.one
    have rm := Ext.refl wm
    simp only [noT] at ho
    clear hm
    (repeat' first
    | with_reducible first | exact ⟨⟩ | (refine gB ?_; intros) | refine gT ?_ ?_
    | refine gs ?_
    | refine sx ?_)
    rename_i b10 w10 n10 k10 s10 q10 w11 n11 k11 s11 b13 wq nq kq sq qq
    have hx3q : Ext w3 wq := FR
    have hmq : Ext wm wq := FR
    have hl13 : b13 < wq.heap.size := kq.2.2.2.1
    have hw13 : w3.heap.size ≤ b13 := FR
    have K7 : Blk wq b7 29 [.slice (some ⟨c0, 0, none⟩) 1 1, .slice (some ⟨c1, 0, none⟩) 1 1, .slice (some ⟨c2, 0, none⟩) 1 1, .slice (some ⟨c5, 0, none⟩) 2 2, .int .i64 1, .slice none 0 0, u] := k7.2.1 _ FR
    have K8 : Blk wq b8 33 [sv, av] := k8.2.1 _ FR
    have K9 : Blk wq b9 41 [wv, rv, .int .i64 0, .slice none 0 0, .slice (some ⟨c7, 0, none⟩) 8 8, apv, .int .i64 x.first, .int .i64 x.last] := ka.2.1 _ FR
    have K10 : Blk wq b10 45 [tv, .int .i64 0] := k11.2.1 _ FR
    have K13 : Blk wq b13 45 [.slice none 0 0, .int .i64 0] := kq.2.1 _ kq.2.2.1
    have hn13 : ¬ b10 = b13 := by have h1 : b10 < w11.heap.size := FR; have h2 : w11.heap.size ≤ b13 := FR; omega
    have HO : Own wq wa.heap.size 3 1 tv (([] : List Int).map intC) := ho.ext hmq
    have hS : Hid (FsS w3 b10 b13 tv wq.heap.size) := ⟨⟨hw13, hl13⟩, hx3q.size, hn13, fun c hc => (HO.lt c hc).2⟩
    have I0 : Hid (FsI w3 b7 b8 b9 b10 b13 [.slice (some ⟨c0, 0, none⟩) 1 1, .slice (some ⟨c1, 0, none⟩) 1 1, .slice (some ⟨c2, 0, none⟩) 1 1, .slice (some ⟨c5, 0, none⟩) 2 2, .int .i64 1, .slice none 0 0, u] [sv, av] [wv, rv, .int .i64 0, .slice none 0 0, .slice (some ⟨c7, 0, none⟩) 8 8, apv, .int .i64 x.first, .int .i64 x.last] [tv, .int .i64 0] tv ([] : List Int) wa.heap.size wq.heap.size 0 0 wq) := ⟨hx3q, K7, K8, K9, K10, Nat.le_refl _, HO, _, [], K13, Own.nil _ _ _ _, rfl, by simp⟩
    clear K7 K8 K9 K10 K13 HO hn13 hw13 hl13 hmq ho k4 k5 k6 k7 k8 k9 ka k10 k11 kq s4 s5 s6 s7 s8 s9 sa sm s10 s11 sq q4 q5 q6 q10 qq s3 hxa bl3 
    refine loop_g p.steps.length (fun g0 k g w' => g 14 = .int .i64 (k : Int) ∧ (g 1 = g0 1 ∧ g 2 = g0 2 ∧ g 7 = g0 7 ∧ g 8 = g0 8 ∧ g 9 = g0 9 ∧ g 10 = g0 10 ∧ g 12 = g0 12 ∧ g 13 = g0 13) ∧ Hid (FsI w3 b7 b8 b9 b10 b13 [.slice (some ⟨c0, 0, none⟩) 1 1, .slice (some ⟨c1, 0, none⟩) 1 1, .slice (some ⟨c2, 0, none⟩) 1 1, .slice (some ⟨c5, 0, none⟩) 2 2, .int .i64 1, .slice none 0 0, u] [sv, av] [wv, rv, .int .i64 0, .slice none 0 0, .slice (some ⟨c7, 0, none⟩) 8 8, apv, .int .i64 x.first, .int .i64 x.last] [tv, .int .i64 0] tv ([] : List Int) wa.heap.size wq.heap.size k 0 w')) KR ?_ ?_ ?_
    · (repeat' first
    | with_reducible first | exact ⟨⟩ | (refine gB ?_; intros) | refine gT ?_ ?_
    | refine gs ?_
    | refine sx ?_)
      all_goals exact I0.out
    · clear I0
      rintro k m g3 wk hk3 hlt n3 ⟨hi3, hf3, hp3⟩
      simp (maxDischargeDepth := 3) only [U, ↓reduceIte, Nat.reduceEqDiff, *] at hf3
      have I3 : Hid (FsI w3 b7 b8 b9 b10 b13 [.slice (some ⟨c0, 0, none⟩) 1 1, .slice (some ⟨c1, 0, none⟩) 1 1, .slice (some ⟨c2, 0, none⟩) 1 1, .slice (some ⟨c5, 0, none⟩) 2 2, .int .i64 1, .slice none 0 0, u] [sv, av] [wv, rv, .int .i64 0, .slice none 0 0, .slice (some ⟨c7, 0, none⟩) 8 8, apv, .int .i64 x.first, .int .i64 x.last] [tv, .int .i64 0] tv ([] : List Int) wa.heap.size wq.heap.size k 0 wk) := hp3
      have hx3k : Ext w3 wk := I3.out.ext
      have hxk : Ext w wk := hxw3.out.trans hx3k
      have sk := hxk.st
      have rk := Ext.refl wk
      have blk : Bl w3.heap.size w3 wk := ⟨Nat.le_refl _, hx3k⟩
      have blg : Bl B w wk := (Bl.refl hB).ext hxk
      have k8 := I3.out.k8.bk
      have k10 := I3.out.k10.bk
      obtain ⟨ov, l, r1, r2, r3⟩ := I3.out.row
      have k13 := r1.bk
      have hqk : wq.heap.size ≤ wk.heap.size := I3.out.size
      have r1' : Hid (Blk wk b13 45 [ov, .int .i64 0]) := r1
      have r2' : Hid (Own wk wq.heap.size 3 1 ov (l.map intC)) := r2
      have r3' : Hid _ := r3
      have hov := r2.one
      have hw : IntKind.i64.wrap ((k : Int) + 1) = ((k + 1 : Nat) : Int) := by rw [wrap_i64_id] <;> omega
      clear hp3 r1 r2 r3
      by_cases hkg : k < gl.length
      · have hkgI : (k : Int) < (gl.length : Int) := by omega
        obtain ⟨gn, hgn⟩ : ∃ gn : Nat, gl[k] = gn := ⟨(gl[k]).toNat, by have := (hgb.out _ (List.getElem_mem hkg)).1; omega⟩
        have hg8 : gn ≤ 255 := by have := (hgb.out _ (List.getElem_mem hkg)).2; omega
        have hwl : IntKind.i64.wrap (ln : Int) = (ln : Int) := wrap_nat (by omega)
        have hwg : IntKind.i64.wrap (gn : Int) = (gn : Int) := wrap_nat (by omega)
        have hw20 : IntKind.i64.wrap ((ln : Int) + 20) = ((ln + 20 : Nat) : Int) := by rw [wrap_i64_id] <;> omega
        have hwlg : IntKind.i64.wrap (((ln + 20 : Nat) : Int) + (gn : Int)) = ((ln + 20 + gn : Nat) : Int) := by rw [wrap_i64_id] <;> omega
        (repeat' first
    | with_reducible first | exact ⟨⟩ | (refine gB ?_; intros) | refine gT ?_ ?_
    | refine gs ?_
    | simp (maxDischargeDepth := 3) only [↓X, ↓Y, ↓Q, S1, ↓reduceIte, Nat.reduceEqDiff, Nat.reduceAdd, Int.reduceLT, Int.reduceLE, Int.reduceNeg, Int.reduceBEq, Int.reduceBNe, Int.reduceEq, Nat.reduceLeDiff, Nat.reduceMul, Nat.reduceLT, *, b8V, hgn, hwl, hwg, hw20, hwlg]
    | simp (singlePass := true) (maxDischargeDepth := 99) only [*, S2, Nat.reduceLT, b8V, hgn, hwl, hwg, hw20, hwlg])
        rename_i bx wx nx kx sx9 qx zx
        clear zx
        have Kx : Blk wx bx 3 (intC ((ln + 20 + gn : Nat) : Int)) := kx.2.1 _ kx.2.2.1
        have hxx : Ext wk wx := FR
        refine appG (e := 3) (sz := 1) (by_ := 8) (z := .int .i64 0) (c := intC) ((ln + 20 + gn : Nat) : Int) KR KR rfl (by decide) (by decide) (r2'.out.ext hxx) Kx rfl (by simp [intC, intV, one_int]) (by have h9 := r3'.out.1; omega) (Nat.le_trans hqk hxx.size) fun v' wy ny Ty hoy => ?_
        have hv1 := hoy.one
        have Ky : Blk wy b13 45 [ov, .int .i64 0] := (Ty.block b13 (r1'.out.ext hxx).lt (r2'.out.ne r1'.out (by decide))).trans (r1'.out.ext hxx)
        have ky := Ky.bk
        have G : Hid (∀ wz, Blk wz b13 45 [v', .int .i64 0] → Chg wy wz b13 → FsI w3 b7 b8 b9 b10 b13 [.slice (some ⟨c0, 0, none⟩) 1 1, .slice (some ⟨c1, 0, none⟩) 1 1, .slice (some ⟨c2, 0, none⟩) 1 1, .slice (some ⟨c5, 0, none⟩) 2 2, .int .i64 1, .slice none 0 0, u] [sv, av] [wv, rv, .int .i64 0, .slice none 0 0, .slice (some ⟨c7, 0, none⟩) 8 8, apv, .int .i64 x.first, .int .i64 x.last] [tv, .int .i64 0] tv ([] : List Int) wa.heap.size wq.heap.size (k + 1) 0 wz) := fun wz hz cz => FsI.grow hS.out I3.out r1'.out r2'.out r3'.out hxx Ty hoy cz hz ⟨by omega, by omega⟩
        clear Ty hoy Ky Kx kx sx9 qx k13 k10 k8 I3 r1' r2' r3' hxx hqk sk
        (repeat' first
    | with_reducible first | exact ⟨⟩ | (refine gB ?_; intros) | refine gT ?_ ?_
    | refine gs ?_
    | refine sx ?_)
        refine fun hb => store_intro (i := 0) KR hb (by simp) hv1 fun wz hbz cz => ?_
        have nz : Now wz := trivial
        simp only [List.set_cons_zero] at hbz
        have I4 : Hid (FsI w3 b7 b8 b9 b10 b13 [.slice (some ⟨c0, 0, none⟩) 1 1, .slice (some ⟨c1, 0, none⟩) 1 1, .slice (some ⟨c2, 0, none⟩) 1 1, .slice (some ⟨c5, 0, none⟩) 2 2, .int .i64 1, .slice none 0 0, u] [sv, av] [wv, rv, .int .i64 0, .slice none 0 0, .slice (some ⟨c7, 0, none⟩) 8 8, apv, .int .i64 x.first, .int .i64 x.last] [tv, .int .i64 0] tv ([] : List Int) wa.heap.size wq.heap.size (k + 1) 0 wz) := G.out wz hbz cz
        clear hbz cz G ky
        (repeat' first
    | with_reducible first | exact ⟨⟩ | (refine gB ?_; intros) | refine gT ?_ ?_
    | refine gs ?_
    | refine sx ?_)
        refine next_g hk3 hlt ?_
        (repeat' first
    | with_reducible first | exact ⟨⟩ | (refine gB ?_; intros) | refine gT ?_ ?_
    | refine gs ?_
    | refine sx ?_)
        all_goals exact I4.out
      · have hkgI : ¬ (k : Int) < (gl.length : Int) := by omega
        have hwl : IntKind.i64.wrap (ln : Int) = (ln : Int) := wrap_nat (by omega)
        (repeat' first
    | with_reducible first | exact ⟨⟩ | (refine gB ?_; intros) | refine gT ?_ ?_
    | refine gs ?_
    | simp (maxDischargeDepth := 3) only [↓X, ↓Y, ↓Q, S1, ↓reduceIte, Nat.reduceEqDiff, Nat.reduceAdd, Int.reduceLT, Int.reduceLE, Int.reduceNeg, Int.reduceBEq, Int.reduceBNe, Int.reduceEq, Nat.reduceLeDiff, Nat.reduceMul, Nat.reduceLT, *, hwl]
    | simp (singlePass := true) (maxDischargeDepth := 99) only [*, S2, Nat.reduceLT, hwl])
        rename_i bx wx nx kx sx9 qx zx
        clear zx
        have Kx : Blk wx bx 3 (intC (ln : Int)) := kx.2.1 _ kx.2.2.1
        have hxx : Ext wk wx := FR
        refine appG (e := 3) (sz := 1) (by_ := 8) (z := .int .i64 0) (c := intC) (ln : Int) KR KR rfl (by decide) (by decide) (r2'.out.ext hxx) Kx rfl (by simp [intC, intV, one_int]) (by have h9 := r3'.out.1; omega) (Nat.le_trans hqk hxx.size) fun v' wy ny Ty hoy => ?_
        have hv1 := hoy.one
        have Ky : Blk wy b13 45 [ov, .int .i64 0] := (Ty.block b13 (r1'.out.ext hxx).lt (r2'.out.ne r1'.out (by decide))).trans (r1'.out.ext hxx)
        have ky := Ky.bk
        have G : Hid (∀ wz, Blk wz b13 45 [v', .int .i64 0] → Chg wy wz b13 → FsI w3 b7 b8 b9 b10 b13 [.slice (some ⟨c0, 0, none⟩) 1 1, .slice (some ⟨c1, 0, none⟩) 1 1, .slice (some ⟨c2, 0, none⟩) 1 1, .slice (some ⟨c5, 0, none⟩) 2 2, .int .i64 1, .slice none 0 0, u] [sv, av] [wv, rv, .int .i64 0, .slice none 0 0, .slice (some ⟨c7, 0, none⟩) 8 8, apv, .int .i64 x.first, .int .i64 x.last] [tv, .int .i64 0] tv ([] : List Int) wa.heap.size wq.heap.size (k + 1) 0 wz) := fun wz hz cz => FsI.grow hS.out I3.out r1'.out r2'.out r3'.out hxx Ty hoy cz hz ⟨by omega, by omega⟩
        clear Ty hoy Ky Kx kx sx9 qx k13 k10 k8 I3 r1' r2' r3' hxx hqk sk
        (repeat' first
    | with_reducible first | exact ⟨⟩ | (refine gB ?_; intros) | refine gT ?_ ?_
    | refine gs ?_
    | refine sx ?_)
        refine fun hb => store_intro (i := 0) KR hb (by simp) hv1 fun wz hbz cz => ?_
        have nz : Now wz := trivial
        simp only [List.set_cons_zero] at hbz
        have I4 : Hid (FsI w3 b7 b8 b9 b10 b13 [.slice (some ⟨c0, 0, none⟩) 1 1, .slice (some ⟨c1, 0, none⟩) 1 1, .slice (some ⟨c2, 0, none⟩) 1 1, .slice (some ⟨c5, 0, none⟩) 2 2, .int .i64 1, .slice none 0 0, u] [sv, av] [wv, rv, .int .i64 0, .slice none 0 0, .slice (some ⟨c7, 0, none⟩) 8 8, apv, .int .i64 x.first, .int .i64 x.last] [tv, .int .i64 0] tv ([] : List Int) wa.heap.size wq.heap.size (k + 1) 0 wz) := G.out wz hbz cz
        clear hbz cz G ky
        (repeat' first
    | with_reducible first | exact ⟨⟩ | (refine gB ?_; intros) | refine gT ?_ ?_
    | refine gs ?_
    | refine sx ?_)
        refine next_g hk3 hlt ?_
        (repeat' first
    | with_reducible first | exact ⟨⟩ | (refine gB ?_; intros) | refine gT ?_ ?_
    | refine gs ?_
    | refine sx ?_)
        all_goals exact I4.out
    · clear I0
      rintro g3 wk n3 ⟨hi3, hf3, hp3⟩
      simp (maxDischargeDepth := 3) only [U, ↓reduceIte, Nat.reduceEqDiff, *] at hf3
      have I3 : Hid (FsI w3 b7 b8 b9 b10 b13 [.slice (some ⟨c0, 0, none⟩) 1 1, .slice (some ⟨c1, 0, none⟩) 1 1, .slice (some ⟨c2, 0, none⟩) 1 1, .slice (some ⟨c5, 0, none⟩) 2 2, .int .i64 1, .slice none 0 0, u] [sv, av] [wv, rv, .int .i64 0, .slice none 0 0, .slice (some ⟨c7, 0, none⟩) 8 8, apv, .int .i64 x.first, .int .i64 x.last] [tv, .int .i64 0] tv ([] : List Int) wa.heap.size wq.heap.size p.steps.length 0 wk) := hp3
      have hx3k : Ext w3 wk := I3.out.ext
      have hxk : Ext w wk := hxw3.out.trans hx3k
      have sk := hxk.st
      have rk := Ext.refl wk
      have blk : Bl w3.heap.size w3 wk := ⟨Nat.le_refl _, hx3k⟩
      have blg : Bl B w wk := (Bl.refl hB).ext hxk
      have k8 := I3.out.k8.bk
      have k10 := I3.out.k10.bk
      obtain ⟨ov, l, r1, r2, r3⟩ := I3.out.row
      have k13 := r1.bk
      have hqk : wq.heap.size ≤ wk.heap.size := I3.out.size
      have r1' : Hid (Blk wk b13 45 [ov, .int .i64 0]) := r1
      have r2' : Hid (Own wk wq.heap.size 3 1 ov (l.map intC)) := r2
      have r3' : Hid _ := r3
      have hov := r2.one
      have k9 := I3.out.k9.bk
      clear hp3 r1 r2 r3
      (repeat' first
    | with_reducible first | exact ⟨⟩ | (refine gB ?_; intros) | refine gT ?_ ?_
    | refine gs ?_
    | refine sx ?_)
      refine fun hb => store_intro (i := 1) KR hb (by simp) rfl fun wz hbz cz => ?_
      have nz : Now wz := trivial
      simp only [List.set_cons_zero, List.set_cons_succ] at hbz
      have I4 : Hid (FsI w3 b7 b8 b9 b10 b13 [.slice (some ⟨c0, 0, none⟩) 1 1, .slice (some ⟨c1, 0, none⟩) 1 1, .slice (some ⟨c2, 0, none⟩) 1 1, .slice (some ⟨c5, 0, none⟩) 2 2, .int .i64 1, .slice none 0 0, u] [sv, av] [wv, rv, .int .i64 0, .slice none 0 0, .slice (some ⟨c7, 0, none⟩) 8 8, apv, .int .i64 x.first, .int .i64 x.last] [tv, .int .i64 0] tv ([] : List Int) wa.heap.size wq.heap.size p.steps.length x.first wz) := FsI.box hS.out I3.out r2'.out r3'.out r1'.out cz hbz
      clear hbz cz k8 k9 k10 k13 I3 r1' r2' r3' blk blg hqk hxk sk hx3k rk hov
      (repeat' first
    | with_reducible first | exact ⟨⟩ | (refine gB ?_; intros) | refine gT ?_ ?_
    | refine gs ?_
    | refine sx ?_)
      refine loop_g p.steps.length (fun g0 k g w' => g 16 = .int .i64 (k : Int) ∧ (g 7 = g0 7 ∧ g 8 = g0 8 ∧ g 9 = g0 9 ∧ g 10 = g0 10 ∧ g 12 = g0 12 ∧ g 13 = g0 13) ∧ ∃ e : Int, Hid (FsI w3 b7 b8 b9 b10 b13 [.slice (some ⟨c0, 0, none⟩) 1 1, .slice (some ⟨c1, 0, none⟩) 1 1, .slice (some ⟨c2, 0, none⟩) 1 1, .slice (some ⟨c5, 0, none⟩) 2 2, .int .i64 1, .slice none 0 0, u] [sv, av] [wv, rv, .int .i64 0, .slice none 0 0, .slice (some ⟨c7, 0, none⟩) 8 8, apv, .int .i64 x.first, .int .i64 x.last] [tv, .int .i64 0] tv ([] : List Int) wa.heap.size wq.heap.size p.steps.length e w')) KR ?_ ?_ ?_
      · (repeat' first
    | with_reducible first | exact ⟨⟩ | (refine gB ?_; intros) | refine gT ?_ ?_
    | refine gs ?_
    | refine sx ?_)
        all_goals exact ⟨_, I4.out⟩
      · clear I4
        rintro k m g3 wk hk3 hlt n3 ⟨hi3, hf3, e, hp3⟩
        simp (maxDischargeDepth := 3) only [U, ↓reduceIte, Nat.reduceEqDiff, *] at hf3
        have I3 : Hid (FsI w3 b7 b8 b9 b10 b13 [.slice (some ⟨c0, 0, none⟩) 1 1, .slice (some ⟨c1, 0, none⟩) 1 1, .slice (some ⟨c2, 0, none⟩) 1 1, .slice (some ⟨c5, 0, none⟩) 2 2, .int .i64 1, .slice none 0 0, u] [sv, av] [wv, rv, .int .i64 0, .slice none 0 0, .slice (some ⟨c7, 0, none⟩) 8 8, apv, .int .i64 x.first, .int .i64 x.last] [tv, .int .i64 0] tv ([] : List Int) wa.heap.size wq.heap.size p.steps.length e wk) := hp3
        have hx3k : Ext w3 wk := I3.out.ext
        have hxk : Ext w wk := hxw3.out.trans hx3k
        have sk := hxk.st
        have rk := Ext.refl wk
        have blk : Bl w3.heap.size w3 wk := ⟨Nat.le_refl _, hx3k⟩
        have blg : Bl B w wk := (Bl.refl hB).ext hxk
        have k8 := I3.out.k8.bk
        have k10 := I3.out.k10.bk
        obtain ⟨ov, l, r1, r2, r3⟩ := I3.out.row
        have k13 := r1.bk
        have hqk : wq.heap.size ≤ wk.heap.size := I3.out.size
        have r1' : Hid (Blk wk b13 45 [ov, .int .i64 e]) := r1
        have r2' : Hid (Own wk wq.heap.size 3 1 ov (l.map intC)) := r2
        have r3' : Hid _ := r3
        have hov := r2.one
        have k9 := I3.out.k9.bk
        have hw : IntKind.i64.wrap ((k : Int) + 1) = ((k + 1 : Nat) : Int) := by rw [wrap_i64_id] <;> omega
        have KO := (r2.sl1 (f := intV)).k (Nat.le_refl _)
        have blo : Bl wk.heap.size wk wk := Bl.refl (Nat.le_refl _)
        have hkl : k < l.length := by rw [r3.1]; exact hlt
        have hklI : (k : Int) < (l.length : Int) := by omega
        have hlr : 0 ≤ l[k] ∧ l[k] ≤ 1000 := r3.2 _ (List.getElem_mem hkl)
        obtain ⟨kn, hkn, hkx, htke, hk1, hk7⟩ := kind_nat hF.out hlt
        have htk8 : kn < 8 := by omega
        have htr := hF.out.take k hlt
        have hkc7 : Blk wk c7 3 (x.takes.map intV) := hc7.out.ext hx3k
        have k97 := hkc7.bk
        obtain ⟨tn, htn, htn9⟩ : ∃ tn : Int, (x.takes.map intV)[kn]? = some (.int .i64 tn) ∧ (1 ≤ tn ∧ tn ≤ 1000) := ⟨takeS p x k, by
          have hkx' : kn < x.takes.length := hkx
          have h0 : takeS p x k = x.takes[kn] := by
            have h00 : takeS p x k = x.takes.getD kn 0 := htke
            rw [h00, List.getD_eq_getElem?_getD, List.getElem?_eq_getElem hkx', Option.getD_some]
          rw [List.getElem?_map, List.getElem?_eq_getElem hkx', h0]; rfl, htr⟩
        have hws : IntKind.i64.wrap (l[k] + tn) = l[k] + tn := by rw [wrap_i64_id] <;> omega
        have hkn0 : (0 : Int) ≤ (kn : Int) := Int.natCast_nonneg kn
        have hkn8 : (kn : Int) < 8 := by omega
        clear hp3 r1 r2 r3 hkc7 htke htr hkx hx3k
        (repeat' first
    | ((with_reducible refine wpd_at 20 ?_); refine wpd_tail 20 KR KR KR ?_)
    | with_reducible first | exact ⟨⟩ | (refine gB ?_; intros) | refine gT ?_ ?_
    | refine gs ?_
    | simp (maxDischargeDepth := 3) only [↓X, ↓Y, ↓Q, S1, ↓reduceIte, Nat.reduceEqDiff, Nat.reduceAdd, Int.reduceLT, Int.reduceLE, Int.reduceNeg, Int.reduceBEq, Int.reduceBNe, Int.reduceEq, Nat.reduceLeDiff, Nat.reduceMul, Nat.reduceLT, *, stepV, stepC, hkn, htn, hws]
    | simp (singlePass := true) (maxDischargeDepth := 99) only [*, S2, Nat.reduceLT, stepV, stepC, hkn, htn, hws])
        rename_i wu nu su
        have hxu : Ext wk wu := FR
        have I5 := I3.out.ext_ hxu
        refine fun hb => store_intro (i := 1) KR hb (by simp) rfl fun wz hbz cz => ?_
        have nz : Now wz := trivial
        simp only [List.set_cons_zero, List.set_cons_succ] at hbz
        have I6 : Hid (∃ e', FsI w3 b7 b8 b9 b10 b13 [.slice (some ⟨c0, 0, none⟩) 1 1, .slice (some ⟨c1, 0, none⟩) 1 1, .slice (some ⟨c2, 0, none⟩) 1 1, .slice (some ⟨c5, 0, none⟩) 2 2, .int .i64 1, .slice none 0 0, u] [sv, av] [wv, rv, .int .i64 0, .slice none 0 0, .slice (some ⟨c7, 0, none⟩) 8 8, apv, .int .i64 x.first, .int .i64 x.last] [tv, .int .i64 0] tv ([] : List Int) wa.heap.size wq.heap.size p.steps.length e' wz) := ⟨_, FsI.box hS.out I5 (r2'.out.ext hxu) r3'.out (r1'.out.ext hxu) cz hbz⟩
        clear hbz cz k8 k9 k10 k13 I3 I5 r1' r2' r3' blk blg hqk hxk sk rk hov KO blo k97 su hxu
        (repeat' first
    | with_reducible first | exact ⟨⟩ | (refine gB ?_; intros) | refine gT ?_ ?_
    | refine gs ?_
    | refine sx ?_)
        refine next_g hk3 hlt ?_
        (repeat' first
    | with_reducible first | exact ⟨⟩ | (refine gB ?_; intros) | refine gT ?_ ?_
    | refine gs ?_
    | refine sx ?_)
        all_goals exact I6.out
      · clear I4
        rintro g3 wk n3 ⟨hi3, hf3, e, hp3⟩
        simp (maxDischargeDepth := 3) only [U, ↓reduceIte, Nat.reduceEqDiff, *] at hf3
        have I3 : Hid (FsI w3 b7 b8 b9 b10 b13 [.slice (some ⟨c0, 0, none⟩) 1 1, .slice (some ⟨c1, 0, none⟩) 1 1, .slice (some ⟨c2, 0, none⟩) 1 1, .slice (some ⟨c5, 0, none⟩) 2 2, .int .i64 1, .slice none 0 0, u] [sv, av] [wv, rv, .int .i64 0, .slice none 0 0, .slice (some ⟨c7, 0, none⟩) 8 8, apv, .int .i64 x.first, .int .i64 x.last] [tv, .int .i64 0] tv ([] : List Int) wa.heap.size wq.heap.size p.steps.length e wk) := hp3
        have hx3k : Ext w3 wk := I3.out.ext
        have hxk : Ext w wk := hxw3.out.trans hx3k
        have sk := hxk.st
        have rk := Ext.refl wk
        have blk : Bl w3.heap.size w3 wk := ⟨Nat.le_refl _, hx3k⟩
        have blg : Bl B w wk := (Bl.refl hB).ext hxk
        have k8 := I3.out.k8.bk
        have k10 := I3.out.k10.bk
        obtain ⟨ov, l, r1, r2, r3⟩ := I3.out.row
        have k13 := r1.bk
        have hqk : wq.heap.size ≤ wk.heap.size := I3.out.size
        have r1' : Hid (Blk wk b13 45 [ov, .int .i64 e]) := r1
        have r2' : Hid (Own wk wq.heap.size 3 1 ov (l.map intC)) := r2
        have r3' : Hid _ := r3
        have hov := r2.one
        have k7 := I3.out.k7.bk
        have k9 := I3.out.k9.bk
        obtain ⟨br, f, hck⟩ : ∃ br f, checkS (houseD 4) p { x with blast := 0 } ⟨l, e⟩ = (br, f) := ⟨_, _, rfl⟩
        have htb : tableT p ⟨l, e⟩ = true := by
          simp only [tableT, Bool.and_eq_true, decide_eq_true_eq, List.all_eq_true, btw]
          exact ⟨r3.1, fun n hn => by have := r3.2 n hn; omega⟩
        have hf : f = 0 ∨ f = 13 := by
          have h9 := check_err (x := { x with blast := 0 }) (t := ⟨l, e⟩) hV0 htb
          rw [hck] at h9
          exact h9
        have H0 := hi0.out hx3k
        have H1 := hi1.out hx3k
        have H2 := hi2.out hx3k
        have hR2 : Hid (Own wk wq.heap.size 3 1 ov (l.map intC)) := r2
        clear hp3 r1 r2
        rcases hf with rfl | rfl
        · have hA9 := (check_allowed (t := ⟨l, e⟩) (by rw [hck])).2.2
          obtain ⟨rr, g1, g2⟩ := first_le hV0 rfl hA9
          rw [hmk] at g1
          cases (Prod.mk.inj g1).2
        · clear r3 r1' r2' r3' htb
          (repeat' first
    | with_reducible first | exact ⟨⟩ | (refine gB ?_; intros) | refine gT ?_ ?_
    | refine gs ?_
    | refine sx ?_)
          refine ret_k (ck_of H0 H1 H2 hX0 hR2.out hck) fun w12 n12 s12 => ?_
          clear H0 H1 H2 hck hR2 I3
          (repeat' first
    | with_reducible first | exact ⟨⟩ | (refine gB ?_; intros) | refine gT ?_ ?_
    | refine gs ?_
    | ((with_reducible refine at_f 10 ?_); refine ret_k (law23awake) fun _ _ _ => ?_)
    | refine sxFst231 ?_)
end
end Go.Proofs.YtopfddchckdhgaaGreat
