
/- The statement AgentOver. -/
import Derived.Test.YtblegjdogmcgbaaGreatOver26
import Derived.Test.YtblegjdogmcgbaaGreatOpen26b
namespace Go.Proofs.YtblegjdogmcgbaaGreat
set_option linter.unusedSimpArgs false
set_option linter.unusedVariables false
open Go Go.RowKit
set_option maxRecDepth 100000
set_option linter.unusedSectionVars false
set_option maxHeartbeats 4000000
section
variable {w : World} {B : Nat} {u : SiteVs} {si : SiteD} {wv hv rv lv : Value} {sl : List SrvV} {x : WorldD} {r : RequestD} {L : List ArrivalD}
theorem tbn_of {X : Nat → Prop} {w w' : World} (hb : Bl 0 w w') (h : ∀ b, b < w.heap.size → ¬ X b → Kp b w w') (hs : w.heap.size ≤ w'.heap.size) : TBn X w w' := ⟨hb.2.os, hb.2.tape, hb.2.output, hs, fun b hb' hn => (h b hb' hn).2⟩
/-- A slice that is not empty lies elsewhere. -/
def NB (v : Value) (b : Nat) : Prop := 0 < lenN v → ¬ blockOf v = some b
theorem Sl.via {X : Nat → Prop} {w w' : World} {sz : Nat} {k : Option Nat} {v : Value} {xs : List Value} (h : Sl w w.heap.size k sz v xs) (key : ∀ c, c < w.heap.size → ¬ X c → Kp c w w') (hne : ∀ c, X c → NB v c) (hs : w.heap.size ≤ w'.heap.size) : Sl w' w'.heap.size k sz v xs :=
  (h.vp fun c hc hl => key c (h.lt c hc (by rw [← h.len]; exact hl)) fun e => hne c e hl hc).more hs
theorem WorldR.via {X : Nat → Prop} {w w' : World} {hv rv : Value} {x : WorldD} (h : WorldR w w.heap.size hv rv x) (key : ∀ c, c < w.heap.size → ¬ X c → Kp c w w') (hne : ∀ c, X c → NB hv c ∧ NB rv c) (hs : w.heap.size ≤ w'.heap.size) : WorldR w' w'.heap.size hv rv x :=
  ⟨h.1.via key (fun c hc => (hne c hc).1) hs, h.2.via key (fun c hc => (hne c hc).2) hs⟩
theorem Sl.sub {w : World} {B n m off : Nat} {v : Value} {xs : List Value} (h : Sl w B (some n) n v xs) {i : Nat} (hi : i < xs.length) (hm : off + m ≤ n) : rdv (some m) w (addF (elemAt v n i) off) = some (.agg (((cellsL xs[i]).drop off).take m).toArray) := by
  have hp := h.ptr hi
  have hr := h.rd i hi
  have hf : ∀ o, o < n → rdv none w (addF (elemAt v n i) o) = (cellsL xs[i])[o]? := fun o ho => h.fld hi ho
  cases he : elemAt v n i with
  | pointer a => cases a with
    | some a =>
      rw [he] at hr hf
      have hr' : (rdN w a 0 n).map (fun l => Value.agg l.toArray) = some xs[i] := hr
      rw [Option.map_eq_some_iff] at hr'
      obtain ⟨l, hl, hx⟩ := hr'
      obtain ⟨h3, h4⟩ := rdN_some hl
      have hc : cellsL xs[i] = l := by rw [← hx]; simp [cellsL]
      rw [hc] at hf ⊢
      show (rdN w (a.add off) 0 m).map (fun l => Value.agg l.toArray) = _
      have key : ∀ (m o : Nat), o + m ≤ n → rdN w a o m = some ((l.drop o).take m) := by
        intro m
        induction m with
        | zero => intro o _; simp [rdN]
        | succ m ih =>
          intro o ho
          have hlt : o < l.length := by omega
          have h6 : w.cell? (a.add o) = some l[o] := by
            have := h4 o l[o] (List.getElem?_eq_getElem hlt)
            rwa [Nat.zero_add] at this
          simp only [rdN, h6, ih (o + 1) (by omega)]
          rw [List.drop_eq_getElem_cons hlt, List.take_succ_cons]
      have shift : ∀ (m o : Nat), rdN w (a.add off) o m = rdN w a (off + o) m := by
        intro m
        induction m with
        | zero => intro o; rfl
        | succ m ih =>
          intro o
          have ha : (a.add off).add o = a.add (off + o) := by
            unfold Addr.add
            split <;> split <;> simp_all [Nat.add_assoc]
          simp only [rdN, ih (o + 1), ha, Nat.add_assoc]
      rw [shift, Nat.add_zero, key m off hm]
      rfl
    | none => rw [he] at hp; exact hp.elim
  | _ => rw [he] at hp; exact hp.elim
theorem Own.nb {w : World} {B e sz b : Nat} {v : Value} {cs : List (List Value)} (h : Own w B e sz v cs) (hb : b < B) : NB v b := fun _ => h.far hb
theorem Sl.nb {w : World} {B b sz : Nat} {k : Option Nat} {v : Value} {xs : List Value} (h : Sl w B k sz v xs) (hb : B ≤ b) : NB v b := fun hl hc => by
  have := h.lt b hc (by rw [← h.len]; exact hl)
  omega
/-- What a round of AgentOver finds: the run, the agents' row, the world, the list of the request's host. -/
def OverI (bR bA n hN : Nat) (u : SiteVs) (si : SiteD) (wl : List ServiceD) (wv : Value) (lease : Int) (w' : World) (j : Nat) : Prop :=
  ∃ (now : Int) (hv rv av : Value) (x : WorldD) (l : List ReplyD) (cs : List Value),
    Blk w' bR 67 (runC u si wv hv rv (.slice (some ⟨bA, 0, none⟩) n n) now) ∧ Blk w' bA 39 cs ∧ cs.length = n ∧ cs[hN]? = some av ∧
    WorldR w' w'.heap.size hv rv x ∧ (∀ c, c = bR ∨ c = bA → NB hv c ∧ NB rv c) ∧
    Sl w' w'.heap.size (some 2) 2 av (l.map replyV) ∧ (∀ c, c = bR ∨ c = bA → NB av c) ∧
    validB si wl x = true ∧ NoDone l ∧ l.length ≤ 2 * j ∧ lease < now ∧ now ≤ lease + 1 + 255 * j
theorem lawAgentOver (hB : B ≤ w.heap.size) (hs : SiteR w B u si) (hl : WishR w B wv sl) (hx0 : WorldR w B hv rv x) (hL : Sl w B (some 8) 8 lv (L.map arrivalV)) (hla : ∀ a ∈ L, 0 ≤ a.later ∧ a.later ≤ 255) : Ret Tryz.prog 4 #[.agg (siteC u si).toArray, .agg #[wv], .agg #[hv, rv], requestV r, lv] w (.bool true) := by
  have hn : Now w := trivial
  have hx : Ext w w := Ext.refl w
  obtain ⟨rid, rl, kd, hto, sv, vr⟩ := r
  have hs' := hs.sk hB
  have hl' := hl.sk hB
  have hx' := hx0.sk hB
  have hL' := hL.k hB
  have hS := hs'.2.2.2.2.2.2
  have hW := hl'.2.2
  have hX := hx'.2.2.2.2
  have hst := fun w' (h1 : Bl B w w') (h3 : B ≤ w'.heap.size) => ref19Valid (st := ⟨kd, hto, sv, vr⟩) h3 (hS w' h1) (hW w' h1)
  (refine callsV_of Tryz.func4 rfl (by kernel_rfl) (by kernel_rfl) ?_; rw [Tryz.results4])
  (repeat' first
    | ((with_reducible refine at_row ?_); refine row1_k (by rfl) (by decide) fun _ _ _ _ _ _ _ => ?_)
    | with_reducible first | refine alloc_k fun _ _ _ _ _ _ => ?_ | refine row_k fun _ _ _ _ _ _ => ?_ | refine fork (fun _ => ?_) fun _ => ?_ | refine forkp (fun _ => ?_) fun _ => ?_ | refine forke (fun _ => ?_) fun _ _ => ?_ | refine tail_k fun _ _ _ => ?_ | refine ext_k fun _ _ _ => ?_ | refine need_a ?_ | refine st_agg (by kernel_rfl) rfl (by simp only [natV, intV, S3, *]) fun _ _ _ _ => ?_ | refine wpd_q_a ?_
    | simp (maxDischargeDepth := 3) only [↓X, ↓Y, ↓Q, S1, ↓reduceIte, Nat.reduceEqDiff, Nat.reduceAdd, Int.reduceLT, Int.reduceLE, Int.reduceNeg, Int.reduceBEq, Int.reduceBNe, Int.reduceEq, Nat.reduceLeDiff, Nat.reduceMul, Nat.reduceLT, natV, intV, putAt, idxOk, flatP, *, siteC, requestV, requestC]
    | simp (singlePass := true) (maxDischargeDepth := 99) only [*, S2, Nat.reduceLT, siteC, requestV, requestC])
  rename_i b4 v4 u4 k4 t4 q4 b5 v5 u5 k5 t5 q5 b6 v6 u6 k6 t6 q6 b7 v7 u7 k7 t7 q7
  refine call_k (law26begin (B := B) FR (hS _ FR) (hW _ FR) (hX _ FR)) ?_
  rintro _ w1 n1 s1 hb1
  have ho : ∀ n : Int, 0 ≤ IntKind.i64.wrap ((IntKind.u64.wrap n).tmod 50) ∧ IntKind.i64.wrap ((IntKind.u64.wrap n).tmod 50) < 50 := fun n => by
    have h0 : 0 ≤ IntKind.u64.wrap n := by rw [IntKind.wrap_u64]; omega
    have h1 := Int.tmod_nonneg 50 h0
    have h2 := Int.tmod_lt_of_pos (IntKind.u64.wrap n) (show (0 : Int) < 50 by decide)
    rw [wrap_i64_id] <;> omega
  obtain ⟨ls, hls, hls0⟩ : ∃ ls, IntKind.i64.wrap ((IntKind.u64.wrap rl).tmod 50) = ls ∧ Hid (0 ≤ ls ∧ ls < 50) := ⟨_, rfl, ho rl⟩
  clear ho
  have hst2 := hst
  generalize hsb : stepB2 si (sl.map (·.x)) ⟨kd, hto, sv, vr⟩ = sb at hst
  replace hsb : Hid _ := hsb
  clear hst2
  rcases hb1 with rfl | ⟨hfew, hval, bR, bA, rfl, hbR, hbA, r1, r2, r3⟩
  · (repeat' first
    | refine st_one (by kernel_rfl) (by simp) rfl fun _ _ _ _ => ?_
    | ((with_reducible refine at_row ?_); refine row1_k (by rfl) (by decide) fun _ _ _ _ _ _ _ => ?_)
    | with_reducible first | refine alloc_k fun _ _ _ _ _ _ => ?_ | refine row_k fun _ _ _ _ _ _ => ?_ | refine fork (fun _ => ?_) fun _ => ?_ | refine forkp (fun _ => ?_) fun _ => ?_ | refine forke (fun _ => ?_) fun _ _ => ?_ | refine tail_k fun _ _ _ => ?_ | refine ext_k fun _ _ _ => ?_ | refine need_a ?_ | refine st_agg (by kernel_rfl) rfl (by simp only [natV, intV, S3, *]) fun _ _ _ _ => ?_ | refine wpd_q_a ?_
    | ((with_reducible refine at_f 18 ?_); refine ret_k (hst _ FR FR) fun _ _ _ => ?_)
    | ((with_reducible refine at_f 9 ?_); refine ret_k (law26lives) fun _ _ _ => ?_)
    | simp (maxDischargeDepth := 3) only [↓X, ↓Y, ↓Q, S1, ↓reduceIte, Nat.reduceEqDiff, Nat.reduceAdd, Int.reduceLT, Int.reduceLE, Int.reduceNeg, Int.reduceBEq, Int.reduceBNe, Int.reduceEq, Nat.reduceLeDiff, Nat.reduceMul, Nat.reduceLT, natV, intV, putAt, idxOk, flatP, *, siteC, requestV, requestC, hls]
    | simp (singlePass := true) (maxDischargeDepth := 99) only [*, S2, Nat.reduceLT, siteC, requestV, requestC, hls])
  have kR := hbR.bk
  have kA := hbA.bk
  have eR : runC u si wv hv rv (.slice (some ⟨bA, 0, none⟩) si.hosts.length si.hosts.length) 0 = [u.f, u.b, u.l, u.r, intV si.switches, u.k, u.h, wv, hv, rv, .slice (some ⟨bA, 0, none⟩) si.hosts.length si.hosts.length, intV 0] := rfl
  rw [eR] at kR
  have h7 : b7 < v7.heap.size := FR
  have n7 : ¬ b7 = bR ∧ ¬ bR = b7 ∧ ¬ b7 = bA ∧ ¬ bA = b7 := by omega
  have h6 : b6 < v7.heap.size := FR
  have n6 : ¬ b6 = bR ∧ ¬ bR = b6 ∧ ¬ b6 = bA ∧ ¬ bA = b6 := by omega
  have h5 : b5 < v7.heap.size := FR
  have n5 : ¬ b5 = bR ∧ ¬ bR = b5 ∧ ¬ b5 = bA ∧ ¬ bA = b5 := by omega
  have h4 : b4 < v7.heap.size := FR
  have n4 : ¬ b4 = bR ∧ ¬ bR = b4 ∧ ¬ b4 = bA ∧ ¬ bA = b4 := by omega
  have hBR : B ≤ bR := Nat.le_trans (show B ≤ v7.heap.size from FR) r1
  have hBA : B ≤ bA := Nat.le_trans (show B ≤ v7.heap.size from FR) r2
  have hBx := hB
  have hwR : w.heap.size ≤ bR := Nat.le_trans (show w.heap.size ≤ v7.heap.size from FR) r1
  have hwA : w.heap.size ≤ bA := Nat.le_trans (show w.heap.size ≤ v7.heap.size from FR) r2
  have hw7 : w.heap.size ≤ b7 := FR
  have r4 : ¬ bA = bR := fun e => r3 e.symm
  clear hbR hbA eR hfew h7 h6 h5 h4
  (repeat' first
    | refine st_one (by kernel_rfl) (by simp) rfl fun _ _ _ _ => ?_
    | ((with_reducible refine at_row ?_); refine row1_k (by rfl) (by decide) fun _ _ _ _ _ _ _ => ?_)
    | with_reducible first | refine alloc_k fun _ _ _ _ _ _ => ?_ | refine row_k fun _ _ _ _ _ _ => ?_ | refine fork (fun _ => ?_) fun _ => ?_ | refine forkp (fun _ => ?_) fun _ => ?_ | refine forke (fun _ => ?_) fun _ _ => ?_ | refine tail_k fun _ _ _ => ?_ | refine ext_k fun _ _ _ => ?_ | refine need_a ?_ | refine st_agg (by kernel_rfl) rfl (by simp only [natV, intV, S3, *]) fun _ _ _ _ => ?_ | refine wpd_q_a ?_
    | ((with_reducible refine at_f 18 ?_); refine ret_k (hst _ FR FR) fun _ _ _ => ?_)
    | ((with_reducible refine at_f 9 ?_); refine ret_k (law26lives) fun _ _ _ => ?_)
    | simp (maxDischargeDepth := 3) only [↓X, ↓Y, ↓Q, S1, ↓reduceIte, Nat.reduceEqDiff, Nat.reduceAdd, Int.reduceLT, Int.reduceLE, Int.reduceNeg, Int.reduceBEq, Int.reduceBNe, Int.reduceEq, Nat.reduceLeDiff, Nat.reduceMul, Nat.reduceLT, natV, intV, putAt, idxOk, flatP, *, siteC, requestV, requestC, hls]
    | simp (singlePass := true) (maxDischargeDepth := 99) only [*, S2, Nat.reduceLT, siteC, requestV, requestC, hls])
  rename_i wa na ka sa wb nb kb sb2 wc nc sc hsbt wL nL kL sL
  subst hsbt
  have hpt := step_parts hsb.out
  have hhost : Hid (0 ≤ hto ∧ hto < (si.hosts.length : Int)) := ⟨hpt.2.2.2.1, hpt.2.2.2.2.1⟩
  clear hpt
  obtain ⟨hN, rfl, hhn⟩ : ∃ hN : Nat, hto = (hN : Int) ∧ hN < si.hosts.length := ⟨hto.toNat, by have := hhost.out; omega, by have := hhost.out; omega⟩
  have hwl1 : IntKind.i64.wrap (ls + 1) = ls + 1 := by have := hls0.out; rw [wrap_i64_id] <;> omega
  rw [hwl1] at kL
  have hXL := hX wL FR
  have hBL : B ≤ wL.heap.size := FR
  have hBLL : Bl B w wL := FR
  have hExL : Ext w wL := FR
  have hnb : ∀ c, c = bR ∨ c = bA → NB hv c ∧ NB rv c := fun c hc => by rcases hc with rfl | rfl <;> exact ⟨hXL.1.nb (by assumption), hXL.2.nb (by assumption)⟩
  have I0 : Hid (OverI bR bA si.hosts.length hN u si (sl.map (·.x)) wv ls wL 0) := by
    refine ⟨ls + 1, hv, rv, .slice none 0 0, x, [], List.replicate si.hosts.length (.slice none 0 0), kL.2.1 _ kL.2.2.1, kA.2.1 _ FR, List.length_replicate, ?_, ⟨hXL.1.more hBL, hXL.2.more hBL⟩, hnb, Sl.nil _ _ _ _, ?_, hval, ?_, by simp, by omega, by omega⟩
    · rw [List.getElem?_replicate, if_pos hhn]
    · intro c _ hl; simp [lenN] at hl
    · intro p hp; simp at hp
  have hLL := hL'
  have TL : TBn (fun c => c = bR ∨ c = bA) wL wL := TBn.refl _
  have kb7 : Kp b7 wL wL := ⟨FR, rfl⟩
  have kb5 : Kp b5 v5 wL := FR
  have kb4 : Kp b4 v4 wL := FR
  have hc7 : ∀ w', Kp b7 wL w' → Blk w' b7 44 (requestC ⟨100, ls, ⟨kd, hN, sv, vr⟩⟩) := fun w' h => (kb.2.1 wL FR).kp h
  have hc5 := fun w' h => k5.2.1 w' (show Kp b5 v5 w' from h)
  have hc4 := fun w' h => k4.2.1 w' (show Kp b4 v4 w' from h)
  clear kL sL kA hnb hXL kb ka sa sb2 sc
  clear kR k7 k5 k4 k6 n6 q4 q5 q6 q7 t4 t5 t6 t7 s1 u4 u5 u6 u7 n1 na nb nc hLL hs' hl' hx' hX hls hwl1 hst
  refine loop_g (min L.length 30) (fun g0 j g w' => g 14 = .int .i64 j ∧ (g 4 = g0 4 ∧ g 5 = g0 5 ∧ g 6 = g0 6 ∧ g 8 = g0 8 ∧ g 11 = g0 11 ∧ g 13 = g0 13) ∧ Hid (OverI bR bA si.hosts.length hN u si (sl.map (·.x)) wv ls w' j ∧ TBn (fun c => c = bR ∨ c = bA) wL w')) (by kernel_rfl) ?_ ?_ ?_
  · (repeat' first
    | ((with_reducible refine at_row ?_); refine row1_k (by rfl) (by decide) fun _ _ _ _ _ _ _ => ?_)
    | with_reducible first | refine alloc_k fun _ _ _ _ _ _ => ?_ | refine row_k fun _ _ _ _ _ _ => ?_ | refine fork (fun _ => ?_) fun _ => ?_ | refine forkp (fun _ => ?_) fun _ => ?_ | refine forke (fun _ => ?_) fun _ _ => ?_ | refine tail_k fun _ _ _ => ?_ | refine ext_k fun _ _ _ => ?_ | refine need_a ?_ | refine st_agg (by kernel_rfl) rfl (by simp only [natV, intV, S3, *]) fun _ _ _ _ => ?_ | refine wpd_q_a ?_
    | simp (maxDischargeDepth := 3) only [↓X, ↓Y, ↓Q, S1, ↓reduceIte, Nat.reduceEqDiff, Nat.reduceAdd, Int.reduceLT, Int.reduceLE, Int.reduceNeg, Int.reduceBEq, Int.reduceBNe, Int.reduceEq, Nat.reduceLeDiff, Nat.reduceMul, Nat.reduceLT, natV, intV, putAt, idxOk, flatP, *]
    | simp (singlePass := true) (maxDischargeDepth := 99) only [*, S2, Nat.reduceLT])
    all_goals exact ⟨I0.out, TL⟩
  · rintro j mj gj wj hj hjt nj ⟨hij, hfj, hJj⟩
    simp (maxDischargeDepth := 3) only [U, ↓reduceIte, Nat.reduceEqDiff, *] at hfj
    obtain ⟨⟨now, hvj, rvj, avj, xj, lj, cs, hbR, hbA, hcl, hcs, hxj, hnx, hlj, hnl, hvalj, hnd, hll, hn1, hn2⟩, htb⟩ := hJj.out
    have hjL : j < L.length := by omega
    have hj30 : (j : Int) < 30 := by omega
    have kR : Bk wj bR 67 [u.f, u.b, u.l, u.r, intV si.switches, u.k, u.h, wv, hvj, rvj, .slice (some ⟨bA, 0, none⟩) si.hosts.length si.hosts.length, intV now] := hbR.bk
    have kA := hbA.bk
    have k7 := ((hc7 wL kb7).tb htb (by simp only [not_or]; exact ⟨n7.1, n7.2.2.1⟩)).bk
    have k5 := ((hc5 wL kb5).tb htb (by simp only [not_or]; exact ⟨n5.1, n5.2.2.1⟩)).bk
    have k4 := ((hc4 wL kb4).tb htb (by simp only [not_or]; exact ⟨n4.1, n4.2.2.1⟩)).bk
    have hExj : Ext w wj := hExL.trans' ⟨htb.os, htb.tape, htb.output, htb.size, fun c hc => htb.block c (Nat.lt_of_lt_of_le hc hExL.size) (by simp only [not_or]; omega)⟩
    have hBj : Bl B w wj := ⟨hB, hExj.mono hB⟩
    have hlat : Hid (0 ≤ L[j].later ∧ L[j].later ≤ 255) := hla _ (List.getElem_mem hjL)
    have hfk := (hL.bl hBj).fk
    obtain ⟨qid, ql, qk, qh, qs, qv, hqr⟩ : ∃ qid ql qk qh qs qv, L[j].r = ⟨qid, ql, ⟨qk, qh, qs, qv⟩⟩ := ⟨_, _, _, _, _, _, rfl⟩
    have hl6 : ∀ w', Bl B w w' → rdv (some 6) w' (addF (elemAt lv 8 j) 0) = some (.agg #[intV qid, intV ql, .int .u8 qk, intV qh, intV qs, intV qv]) := fun w' h => by
      have := (hL.bl h).sub (i := j) (off := 0) (m := 6) (by simpa using hjL) (by decide)
      rw [this]
      simp only [List.getElem_map]
      show some (requestV L[j].r) = _
      rw [hqr]
      rfl
    have hstq := fun w' (h1 : Bl B w w') (h3 : B ≤ w'.heap.size) => ref19Valid (st := ⟨qk, qh, qs, qv⟩) h3 (hS w' h1) (hW w' h1)
    generalize hqb : stepB2 si (sl.map (·.x)) ⟨qk, qh, qs, qv⟩ = qb at hstq
    replace hqb : Hid _ := hqb
    replace hqr : Hid _ := hqr
    have hl7 : ∀ w', Bl B w w' → rdv none w' (addF (elemAt lv 8 j) 6) = some (.int .u8 L[j].later) := fun w' h => by
      have := (hL.bl h).fld (i := j) (off := 6) (by simpa using hjL) (by decide)
      rw [this]
      simp only [List.getElem_map]
      rfl
    have hpj := hfk.1 j hjL
    have hlat2 : IntKind.i64.wrap L[j].later = L[j].later := by have := hlat.out; rw [wrap_i64_id] <;> omega
    have hwj : IntKind.i64.wrap ((j : Int) + 1) = ((j + 1 : Nat) : Int) := by rw [wrap_i64_id] <;> omega
    have hnow2 : IntKind.i64.wrap (now + L[j].later) = now + L[j].later := by have := hlat.out; have := hls0.out; rw [wrap_i64_id] <;> omega
    have fin : ∀ (we : World) (h' r' a' : Value) (x' : WorldD) (l' : List ReplyD), Blk we bR 67 (runC u si wv h' r' (.slice (some ⟨bA, 0, none⟩) si.hosts.length si.hosts.length) (now + L[j].later)) → Blk we bA 39 (cs.set hN a') → WorldR we we.heap.size h' r' x' → (∀ c, c = bR ∨ c = bA → NB h' c ∧ NB r' c) →
        Sl we we.heap.size (some 2) 2 a' (l'.map replyV) → (∀ c, c = bR ∨ c = bA → NB a' c) → validB si (sl.map (·.x)) x' = true → NoDone l' → l'.length ≤ lj.length + 2 → TBn (fun c => c = bR ∨ c = bA) wj we → Hid (OverI bR bA si.hosts.length hN u si (sl.map (·.x)) wv ls we (j + 1) ∧ TBn (fun c => c = bR ∨ c = bA) wL we) := fun we h' r' a' x' l' f1 f2 f3 f4 f5 f6 f7 f8 f9 f10 => by
      have := hlat.out
      exact ⟨⟨now + L[j].later, h', r', a', x', l', cs.set hN a', f1, f2, by rw [List.length_set]; exact hcl, by rw [List.getElem?_set_self (by omega)], f3, f4, f5, f6, f7, f8, by omega, by omega, by omega⟩, htb.trans f10⟩
    replace fin : Hid _ := fin
    clear hfk hbR hbA hJj
    (repeat' first
    | ((with_reducible refine wpd_at 10 ?_); refine wpd_hold ?_)
    | ((with_reducible refine at_row ?_); refine row1_k (by rfl) (by decide) fun _ _ _ _ _ _ _ => ?_)
    | with_reducible first | refine alloc_k fun _ _ _ _ _ _ => ?_ | refine row_k fun _ _ _ _ _ _ => ?_ | refine fork (fun _ => ?_) fun _ => ?_ | refine forkp (fun _ => ?_) fun _ => ?_ | refine forke (fun _ => ?_) fun _ _ => ?_ | refine tail_k fun _ _ _ => ?_ | refine ext_k fun _ _ _ => ?_ | refine need_a ?_ | refine st_agg (by kernel_rfl) rfl (by simp only [natV, intV, S3, *]) fun _ _ _ _ => ?_ | refine wpd_q_a ?_
    | simp (maxDischargeDepth := 3) only [↓X, ↓Y, ↓Q, S1, ↓reduceIte, Nat.reduceEqDiff, Nat.reduceAdd, Int.reduceLT, Int.reduceLE, Int.reduceNeg, Int.reduceBEq, Int.reduceBNe, Int.reduceEq, Nat.reduceLeDiff, Nat.reduceMul, Nat.reduceLT, natV, intV, putAt, idxOk, flatP, *]
    | simp (singlePass := true) (maxDischargeDepth := 99) only [*, S2, Nat.reduceLT])
    unfold wpdH
    refine wpd_rel 14 (fun iI v w9 => match iI with
      | 0 => v = .pointer (some ⟨bR, 0, none⟩)
      | 1 => v = .pointer (some ⟨bR, 0, none⟩)
      | 2 => v = .pointer (some ⟨bR, 0, none⟩)
      | 3 => v = .pointer (some ⟨bR, 11, none⟩)
      | 4 => v = intV now
      | 5 => v = lv
      | 6 => v = .int .i64 j
      | 7 => v = elemAt lv 8 j
      | 8 => v = addF (elemAt lv 8 j) 6
      | 9 => v = .int .u8 L[j].later
      | 10 => v = .int .i64 L[j].later
      | 11 => v = .int .i64 (now + L[j].later)
      | 12 => v = .pointer (some ⟨bR, 0, none⟩)
      | 13 => v = .pointer (some ⟨bR, 11, none⟩)
      | _ => False) (by kernel_rfl) (by kernel_rfl) (by kernel_rfl) ?_ ?_ ?_
    · intro iI v w1 w2 hR hx9
      match iI, hR with
      | 0, h => exact h
      | 1, h => exact h
      | 2, h => exact h
      | 3, h => exact h
      | 4, h => exact h
      | 5, h => exact h
      | 6, h => exact h
      | 7, h => exact h
      | 8, h => exact h
      | 9, h => exact h
      | 10, h => exact h
      | 11, h => exact h
      | 12, h => exact h
      | 13, h => exact h
    · intro iI oO hi ho gF w9 hx9 hdep hag
      have s9 := hx9.st
      have n9 : Now w9 := trivial
      have r9 := Ext.refl w9
      have z9 := hx9.size
      rcases iI with _|_|_|_|_|_|_|_|_|_|_|_|_|_|iI
      have e := Option.some.inj ho
      subst e
      have a11 := hag.at 11 (by kernel_rfl)
      simp only [S5, ↓reduceIte, Nat.reduceEqDiff, initF, *] at a11
      clear hag hdep ho
      refine relStep_off rfl ?_
      rotate_left
      have e := Option.some.inj ho
      subst e
      have a11 := hag.at 11 (by kernel_rfl)
      simp only [S5, ↓reduceIte, Nat.reduceEqDiff, initF, *] at a11
      clear hag hdep ho
      refine relStep_off rfl ?_
      rotate_left
      have e := Option.some.inj ho
      subst e
      have d1 : (gF 69) = .pointer (some ⟨bR, 0, none⟩) := hdep ⟨1, .data⟩ (by simp) rfl _ _ rfl rfl
      clear hag hdep ho
      refine relStep_off rfl ?_
      rotate_left
      have e := Option.some.inj ho
      subst e
      have d2 : (gF 70) = .pointer (some ⟨bR, 0, none⟩) := hdep ⟨2, .data⟩ (by simp) rfl _ _ rfl rfl
      clear hag hdep ho
      refine relStep_off rfl ?_
      rotate_left
      have e := Option.some.inj ho
      subst e
      have d3 : (gF 71) = .pointer (some ⟨bR, 11, none⟩) := hdep ⟨3, .data⟩ (by simp) rfl _ _ rfl rfl
      clear hag hdep ho
      refine relStep_off rfl ?_
      rotate_left
      have e := Option.some.inj ho
      subst e
      have a4 := hag.at 4 (by kernel_rfl)
      simp only [S5, ↓reduceIte, Nat.reduceEqDiff, initF, *] at a4
      clear hag hdep ho
      refine relStep_off rfl ?_
      rotate_left
      have e := Option.some.inj ho
      subst e
      have a14 := hag.at 14 (by kernel_rfl)
      simp only [S5, ↓reduceIte, Nat.reduceEqDiff, initF, *] at a14
      clear hag hdep ho
      refine relStep_off rfl ?_
      rotate_left
      have e := Option.some.inj ho
      subst e
      have d5 : (gF 73) = lv := hdep ⟨5, .data⟩ (by simp) rfl _ _ rfl rfl
      have d6 : (gF 74) = .int .i64 j := hdep ⟨6, .data⟩ (by simp) rfl _ _ rfl rfl
      clear hag hdep ho
      refine relStep_off rfl ?_
      rotate_left
      have e := Option.some.inj ho
      subst e
      have d7 : (gF 75) = elemAt lv 8 j := hdep ⟨7, .data⟩ (by simp) rfl _ _ rfl rfl
      clear hag hdep ho
      refine relStep_off rfl ?_
      rotate_left
      have e := Option.some.inj ho
      subst e
      have d8 : (gF 76) = addF (elemAt lv 8 j) 6 := hdep ⟨8, .data⟩ (by simp) rfl _ _ rfl rfl
      clear hag hdep ho
      refine relStep_off rfl ?_
      rotate_left
      have e := Option.some.inj ho
      subst e
      have d9 : (gF 77) = .int .u8 L[j].later := hdep ⟨9, .data⟩ (by simp) rfl _ _ rfl rfl
      clear hag hdep ho
      refine relStep_off rfl ?_
      rotate_left
      have e := Option.some.inj ho
      subst e
      have d4 : (gF 72) = intV now := hdep ⟨4, .data⟩ (by simp) rfl _ _ rfl rfl
      have d10 : (gF 78) = .int .i64 L[j].later := hdep ⟨10, .data⟩ (by simp) rfl _ _ rfl rfl
      clear hag hdep ho
      refine relStep_off rfl ?_
      rotate_left
      have e := Option.some.inj ho
      subst e
      have d0 : (gF 68) = .pointer (some ⟨bR, 0, none⟩) := hdep ⟨0, .data⟩ (by simp) rfl _ _ rfl rfl
      clear hag hdep ho
      refine relStep_off rfl ?_
      rotate_left
      have e := Option.some.inj ho
      subst e
      have d12 : (gF 80) = .pointer (some ⟨bR, 0, none⟩) := hdep ⟨12, .data⟩ (by simp) rfl _ _ rfl rfl
      clear hag hdep ho
      refine relStep_off rfl ?_
      rotate_left
      · omega
      all_goals (repeat' first
    | ((with_reducible refine at_row ?_); refine row1_k (by rfl) (by decide) fun _ _ _ _ _ _ _ => ?_)
    | with_reducible first | refine alloc_k fun _ _ _ _ _ _ => ?_ | refine row_k fun _ _ _ _ _ _ => ?_ | refine fork (fun _ => ?_) fun _ => ?_ | refine forkp (fun _ => ?_) fun _ => ?_ | refine forke (fun _ => ?_) fun _ _ => ?_ | refine tail_k fun _ _ _ => ?_ | refine ext_k fun _ _ _ => ?_ | refine need_a ?_ | refine st_agg (by kernel_rfl) rfl (by simp only [natV, intV, S3, *]) fun _ _ _ _ => ?_ | refine wpd_q_a ?_
    | simp (maxDischargeDepth := 3) only [↓X, ↓Y, ↓Q, S1, ↓reduceIte, Nat.reduceEqDiff, Nat.reduceAdd, Int.reduceLT, Int.reduceLE, Int.reduceNeg, Int.reduceBEq, Int.reduceBNe, Int.reduceEq, Nat.reduceLeDiff, Nat.reduceMul, Nat.reduceLT, natV, intV, putAt, idxOk, flatP, *]
    | simp (singlePass := true) (maxDischargeDepth := 99) only [*, S2, Nat.reduceLT])
    · intro g9 w9 hx9 hR hag
      have s9 := hx9.st
      have n9 : Now w9 := trivial
      have r9 := Ext.refl w9
      have z9 := hx9.size
      have d11 : (g9 79) = .int .i64 (now + L[j].later) := hR 11 _ _ (by decide) rfl rfl
      have d13 : (g9 81) = .pointer (some ⟨bR, 11, none⟩) := hR 13 _ _ (by decide) rfl rfl
      have a4 := hag.at 4 (by kernel_rfl)
      have a5 := hag.at 5 (by kernel_rfl)
      have a6 := hag.at 6 (by kernel_rfl)
      have a8 := hag.at 8 (by kernel_rfl)
      have a11 := hag.at 11 (by kernel_rfl)
      have a13 := hag.at 13 (by kernel_rfl)
      have a14 := hag.at 14 (by kernel_rfl)
      simp only [S5, ↓reduceIte, Nat.reduceEqDiff, initF, *] at a4 a5 a6 a8 a11 a13 a14
      clear hag hR
      simp only [List.drop_succ_cons, List.drop_zero]
      (repeat' first
    | ((with_reducible refine wpd_at 11 ?_); refine wpd_hold ?_)
    | refine st_one (by kernel_rfl) (by simp) rfl fun _ _ _ _ => ?_
    | ((with_reducible refine at_row ?_); refine row1_k (by rfl) (by decide) fun _ _ _ _ _ _ _ => ?_)
    | with_reducible first | refine alloc_k fun _ _ _ _ _ _ => ?_ | refine row_k fun _ _ _ _ _ _ => ?_ | refine fork (fun _ => ?_) fun _ => ?_ | refine forkp (fun _ => ?_) fun _ => ?_ | refine forke (fun _ => ?_) fun _ _ => ?_ | refine tail_k fun _ _ _ => ?_ | refine ext_k fun _ _ _ => ?_ | refine need_a ?_ | refine st_agg (by kernel_rfl) rfl (by simp only [natV, intV, S3, *]) fun _ _ _ _ => ?_ | refine wpd_q_a ?_
    | simp (maxDischargeDepth := 3) only [↓X, ↓Y, ↓Q, S1, ↓reduceIte, Nat.reduceEqDiff, Nat.reduceAdd, Int.reduceLT, Int.reduceLE, Int.reduceNeg, Int.reduceBEq, Int.reduceBNe, Int.reduceEq, Nat.reduceLeDiff, Nat.reduceMul, Nat.reduceLT, natV, intV, putAt, idxOk, flatP, *]
    | simp (singlePass := true) (maxDischargeDepth := 99) only [*, S2, Nat.reduceLT])
      rename_i w10 n10 kR10 s10
      have keyR : ∀ c, c < wj.heap.size → ¬ (c = bR ∨ c = bA) → Kp c wj w10 := fun c h1 h2 => by
        have h3 : Kp c wj wj := ⟨h1, rfl⟩
        have h4 : ¬ c = bR := fun e => h2 (.inl e)
        exact FR
      have zj : wj.heap.size ≤ w10.heap.size := FR
      have X10 := hxj.via keyR hnx zj
      have A10 := hlj.via keyR hnl zj
      have kA10 := (kA.2.1 w10 FR).bk
      have k710 := (k7.2.1 w10 FR).bk
      have k510 := (k5.2.1 w10 FR).bk
      have k410 := (k4.2.1 w10 FR).bk
      have hB10 : Bl B w w10 := FR
      have hE10 : Ext w w10 := FR
      have hBs : B ≤ w10.heap.size := hB10.size
      have XK := (X10.sk (Nat.le_refl _)).2.2.2.2
      have AK := (A10.k (Nat.le_refl _)).2.2.2.2.2.2.1
      obtain ⟨l1, ⟨pi, pa⟩, hd1, hp1, hnd1, hl1n, hl1⟩ := over_r (now := now + L[j].later) (r := ⟨100, ls, ⟨kd, hN, sv, vr⟩⟩) hvalj hsb.out rfl hls0.out.1 (by have := hlat.out; simp only; omega) (by omega) hnd
      have hq1 := head_ne hl1n fun p hp => (hnd1 p hp).1
      have hpa : (pa == 1) = false := by simpa using hp1
      have hlen1 : lj.length ≤ 1000000 := by omega
      have hreq : requestC ⟨100, ls, ⟨kd, hN, sv, vr⟩⟩ = [intV 100, intV ls, .int .u8 kd, intV hN, intV sv, intV vr] := rfl
      rw [hreq] at k710
      obtain ⟨wx, hwx⟩ : ∃ x, x = w10 := ⟨_, rfl⟩
      subst hwx
      have hb10 : Bl wx.heap.size wx wx := Bl.refl (Nat.le_refl _)
      unfold wpdH
      refine wpd_relS 30 [(27, 24), (28, 25), (29, 26)] (fun iI s v w9 => match iI with
        | 0 => v = .agg (siteC u si).toArray
        | 1 => v = .agg #[wv]
        | 2 => v = .pointer (some ⟨bR, 0, none⟩)
        | 3 => v = .pointer (some ⟨bR, 0, none⟩)
        | 4 => v = .pointer (some ⟨bR, 8, none⟩)
        | 5 => v = .agg #[hvj, rvj]
        | 6 => v = .pointer (some ⟨bR, 0, none⟩)
        | 7 => v = .pointer (some ⟨bR, 0, none⟩)
        | 8 => v = .pointer (some ⟨bR, 10, none⟩)
        | 9 => v = .slice (some ⟨bA, 0, none⟩) si.hosts.length si.hosts.length
        | 10 => v = .int .i64 hN
        | 11 => v = .pointer (some ⟨bA, hN, none⟩)
        | 12 => v = .agg #[avj]
        | 13 => v = requestV ⟨100, ls, ⟨kd, hN, sv, vr⟩⟩
        | 14 => v = .pointer (some ⟨bR, 0, none⟩)
        | 15 => v = .pointer (some ⟨bR, 0, none⟩)
        | 16 => v = .pointer (some ⟨bR, 11, none⟩)
        | 17 => v = intV (now + L[j].later)
        | 18 => HandR wx.heap.size v w9 ⟨xj, l1, ⟨pi, pa⟩, 0⟩
        | 19 => HandR wx.heap.size v w9 ⟨xj, l1, ⟨pi, pa⟩, 0⟩
        | 20 => OwnW wx.heap.size v w9 xj
        | 21 => ∃ a, v = .agg #[a] ∧ OwnA w9 wx.heap.size a l1
        | 22 => v = replyV ⟨pi, pa⟩
        | 23 => v = intV 0
        | 24 => ∃ b, v = .pointer (some ⟨b, 0, none⟩) ∧ wx.heap.size ≤ b ∧ (s = false → Blk w9 b 36 [.slice none 0 0, .slice none 0 0]) ∧ (s = true → ∃ h r, Blk w9 b 36 [h, r] ∧ OwnH w9 wx.heap.size h xj.hosts ∧ OwnP w9 wx.heap.size r xj.replicas)
        | 25 => ∃ b, v = .pointer (some ⟨b, 0, none⟩) ∧ wx.heap.size ≤ b ∧ (s = false → Blk w9 b 39 [.slice none 0 0]) ∧ (s = true → ∃ a, Blk w9 b 39 [a] ∧ OwnA w9 wx.heap.size a l1)
        | 26 => ∃ b, v = .pointer (some ⟨b, 0, none⟩) ∧ wx.heap.size ≤ b ∧ (s = false → Blk w9 b 50 [intV 0, .int .u8 0]) ∧ (s = true → Blk w9 b 50 [intV pi, .int .u8 pa])
        | 27 => True
        | 28 => True
        | 29 => True
        | _ => False) (by kernel_rfl) (by kernel_rfl) (by kernel_rfl) (by kernel_rfl) ?_ ?_ ?_
      · intro iI s v w1 w2 hR hx9
        match iI, hR with
        | 0, h => exact h
        | 1, h => exact h
        | 2, h => exact h
        | 3, h => exact h
        | 4, h => exact h
        | 5, h => exact h
        | 6, h => exact h
        | 7, h => exact h
        | 8, h => exact h
        | 9, h => exact h
        | 10, h => exact h
        | 11, h => exact h
        | 12, h => exact h
        | 13, h => exact h
        | 14, h => exact h
        | 15, h => exact h
        | 16, h => exact h
        | 17, h => exact h
        | 18, h => exact HandR.ext h hx9
        | 19, h => exact HandR.ext h hx9
        | 20, h => exact OwnW.ext h hx9
        | 21, h => exact (let ⟨a, e, k⟩ := h; ⟨a, e, k.ext hx9⟩)
        | 22, h => exact h
        | 23, h => exact h
        | 24, ⟨b, e, h1, h2, h3⟩ => exact ⟨b, e, h1, fun hs => (h2 hs).ext hx9, fun hs => (fun h => (let ⟨a, b, k, o1, o2⟩ := h; ⟨a, b, k.ext hx9, o1.ext hx9, o2.ext hx9⟩)) (h3 hs)⟩
        | 25, ⟨b, e, h1, h2, h3⟩ => exact ⟨b, e, h1, fun hs => (h2 hs).ext hx9, fun hs => (fun h => (let ⟨a, k, o1⟩ := h; ⟨a, k.ext hx9, o1.ext hx9⟩)) (h3 hs)⟩
        | 26, ⟨b, e, h1, h2, h3⟩ => exact ⟨b, e, h1, fun hs => (h2 hs).ext hx9, fun hs => (fun h => h.ext hx9) (h3 hs)⟩
        | 27, h => exact h
        | 28, h => exact h
        | 29, h => exact h
      · intro iI oO hi ho gF w9 S9 hx9 hdep hag
        have s9 := hx9.st
        have n9 : Now w9 := trivial
        have r9 := Ext.refl w9
        have z9 := hx9.size
        rcases iI with _|_|_|_|_|_|_|_|_|_|_|_|_|_|_|_|_|_|_|_|_|_|_|_|_|_|_|_|_|_|iI
        have e := Option.some.inj ho
        subst e
        have a5 := hag.at 5 (by kernel_rfl)
        simp only [S5, ↓reduceIte, Nat.reduceEqDiff, initF, *] at a5
        clear hag hdep ho
        refine ⟨fun _ => ?_, fun a9 pa da hal => by simp [alL] at hal⟩
        refine relStep_off rfl ?_
        rotate_left
        have e := Option.some.inj ho
        subst e
        have a6 := hag.at 6 (by kernel_rfl)
        simp only [S5, ↓reduceIte, Nat.reduceEqDiff, initF, *] at a6
        clear hag hdep ho
        refine ⟨fun _ => ?_, fun a9 pa da hal => by simp [alL] at hal⟩
        refine relStep_off rfl ?_
        rotate_left
        have e := Option.some.inj ho
        subst e
        have a11 := hag.at 11 (by kernel_rfl)
        simp only [S5, ↓reduceIte, Nat.reduceEqDiff, initF, *] at a11
        clear hag hdep ho
        refine ⟨fun _ => ?_, fun a9 pa da hal => by simp [alL] at hal⟩
        refine relStep_off rfl ?_
        rotate_left
        have e := Option.some.inj ho
        subst e
        have d2 : (gF 85) = .pointer (some ⟨bR, 0, none⟩) := hdep ⟨2, .data⟩ (by simp) rfl _ _ rfl rfl
        clear hag hdep ho
        refine ⟨fun _ => ?_, fun a9 pa da hal => by simp [alL] at hal⟩
        refine relStep_off rfl ?_
        rotate_left
        have e := Option.some.inj ho
        subst e
        have d3 : (gF 86) = .pointer (some ⟨bR, 0, none⟩) := hdep ⟨3, .data⟩ (by simp) rfl _ _ rfl rfl
        clear hag hdep ho
        refine ⟨fun _ => ?_, fun a9 pa da hal => by simp [alL] at hal⟩
        refine relStep_off rfl ?_
        rotate_left
        have e := Option.some.inj ho
        subst e
        have d4 : (gF 87) = .pointer (some ⟨bR, 8, none⟩) := hdep ⟨4, .data⟩ (by simp) rfl _ _ rfl rfl
        clear hag hdep ho
        refine ⟨fun _ => ?_, fun a9 pa da hal => by simp [alL] at hal⟩
        refine relStep_off rfl ?_
        rotate_left
        have e := Option.some.inj ho
        subst e
        have a11 := hag.at 11 (by kernel_rfl)
        simp only [S5, ↓reduceIte, Nat.reduceEqDiff, initF, *] at a11
        clear hag hdep ho
        refine ⟨fun _ => ?_, fun a9 pa da hal => by simp [alL] at hal⟩
        refine relStep_off rfl ?_
        rotate_left
        have e := Option.some.inj ho
        subst e
        have d6 : (gF 89) = .pointer (some ⟨bR, 0, none⟩) := hdep ⟨6, .data⟩ (by simp) rfl _ _ rfl rfl
        clear hag hdep ho
        refine ⟨fun _ => ?_, fun a9 pa da hal => by simp [alL] at hal⟩
        refine relStep_off rfl ?_
        rotate_left
        have e := Option.some.inj ho
        subst e
        have d7 : (gF 90) = .pointer (some ⟨bR, 0, none⟩) := hdep ⟨7, .data⟩ (by simp) rfl _ _ rfl rfl
        clear hag hdep ho
        refine ⟨fun _ => ?_, fun a9 pa da hal => by simp [alL] at hal⟩
        refine relStep_off rfl ?_
        rotate_left
        have e := Option.some.inj ho
        subst e
        have d8 : (gF 91) = .pointer (some ⟨bR, 10, none⟩) := hdep ⟨8, .data⟩ (by simp) rfl _ _ rfl rfl
        clear hag hdep ho
        refine ⟨fun _ => ?_, fun a9 pa da hal => by simp [alL] at hal⟩
        refine relStep_off rfl ?_
        rotate_left
        have e := Option.some.inj ho
        subst e
        have a13 := hag.at 13 (by kernel_rfl)
        simp only [S5, ↓reduceIte, Nat.reduceEqDiff, initF, *] at a13
        clear hag hdep ho
        refine ⟨fun _ => ?_, fun a9 pa da hal => by simp [alL] at hal⟩
        refine relStep_off rfl ?_
        rotate_left
        have e := Option.some.inj ho
        subst e
        have d9 : (gF 92) = .slice (some ⟨bA, 0, none⟩) si.hosts.length si.hosts.length := hdep ⟨9, .data⟩ (by simp) rfl _ _ rfl rfl
        have d10 : (gF 93) = .int .i64 hN := hdep ⟨10, .data⟩ (by simp) rfl _ _ rfl rfl
        clear hag hdep ho
        refine ⟨fun _ => ?_, fun a9 pa da hal => by simp [alL] at hal⟩
        refine relStep_off rfl ?_
        rotate_left
        have e := Option.some.inj ho
        subst e
        have d11 : (gF 94) = .pointer (some ⟨bA, hN, none⟩) := hdep ⟨11, .data⟩ (by simp) rfl _ _ rfl rfl
        clear hag hdep ho
        refine ⟨fun _ => ?_, fun a9 pa da hal => by simp [alL] at hal⟩
        refine relStep_off rfl ?_
        rotate_left
        have e := Option.some.inj ho
        subst e
        have a8 := hag.at 8 (by kernel_rfl)
        simp only [S5, ↓reduceIte, Nat.reduceEqDiff, initF, *] at a8
        clear hag hdep ho
        refine ⟨fun _ => ?_, fun a9 pa da hal => by simp [alL] at hal⟩
        refine relStep_off rfl ?_
        rotate_left
        have e := Option.some.inj ho
        subst e
        have a11 := hag.at 11 (by kernel_rfl)
        simp only [S5, ↓reduceIte, Nat.reduceEqDiff, initF, *] at a11
        clear hag hdep ho
        refine ⟨fun _ => ?_, fun a9 pa da hal => by simp [alL] at hal⟩
        refine relStep_off rfl ?_
        rotate_left
        have e := Option.some.inj ho
        subst e
        have d14 : (gF 97) = .pointer (some ⟨bR, 0, none⟩) := hdep ⟨14, .data⟩ (by simp) rfl _ _ rfl rfl
        clear hag hdep ho
        refine ⟨fun _ => ?_, fun a9 pa da hal => by simp [alL] at hal⟩
        refine relStep_off rfl ?_
        rotate_left
        have e := Option.some.inj ho
        subst e
        have d15 : (gF 98) = .pointer (some ⟨bR, 0, none⟩) := hdep ⟨15, .data⟩ (by simp) rfl _ _ rfl rfl
        clear hag hdep ho
        refine ⟨fun _ => ?_, fun a9 pa da hal => by simp [alL] at hal⟩
        refine relStep_off rfl ?_
        rotate_left
        have e := Option.some.inj ho
        subst e
        have d16 : (gF 99) = .pointer (some ⟨bR, 11, none⟩) := hdep ⟨16, .data⟩ (by simp) rfl _ _ rfl rfl
        clear hag hdep ho
        refine ⟨fun _ => ?_, fun a9 pa da hal => by simp [alL] at hal⟩
        refine relStep_off rfl ?_
        rotate_left
        have e := Option.some.inj ho
        subst e
        have d0 : (gF 83) = .agg (siteC u si).toArray := hdep ⟨0, .data⟩ (by simp) rfl _ _ rfl rfl
        have d1 : (gF 84) = .agg #[wv] := hdep ⟨1, .data⟩ (by simp) rfl _ _ rfl rfl
        have d5 : (gF 88) = .agg #[hvj, rvj] := hdep ⟨5, .data⟩ (by simp) rfl _ _ rfl rfl
        have d12 : (gF 95) = .agg #[avj] := hdep ⟨12, .data⟩ (by simp) rfl _ _ rfl rfl
        have d13 : (gF 96) = requestV ⟨100, ls, ⟨kd, hN, sv, vr⟩⟩ := hdep ⟨13, .data⟩ (by simp) rfl _ _ rfl rfl
        have d17 : (gF 100) = intV (now + L[j].later) := hdep ⟨17, .data⟩ (by simp) rfl _ _ rfl rfl
        clear hag hdep ho
        refine ⟨fun _ => ?_, fun a9 pa da hal => by simp [alL] at hal⟩
        refine relStep_off rfl ?_
        rotate_left
        have e := Option.some.inj ho
        subst e
        have d18 : HandR wx.heap.size (gF 101) w9 ⟨xj, l1, ⟨pi, pa⟩, 0⟩ := hdep ⟨18, .data⟩ (by simp) rfl _ _ rfl rfl
        clear hag hdep ho
        refine ⟨fun _ => ?_, fun a9 pa da hal => by simp [alL] at hal⟩
        refine relStep_off rfl ?_
        rotate_left
        have e := Option.some.inj ho
        subst e
        have d19 : HandR wx.heap.size (gF 82) w9 ⟨xj, l1, ⟨pi, pa⟩, 0⟩ := hdep ⟨19, .data⟩ (by simp) rfl _ _ rfl rfl
        obtain ⟨v6, a6, e6, o6, oa6⟩ := d19
        clear hag hdep ho
        refine ⟨fun _ => ?_, fun a9 pa da hal => by simp [alL] at hal⟩
        refine relStep_off rfl ?_
        rotate_left
        have e := Option.some.inj ho
        subst e
        have d19 : HandR wx.heap.size (gF 82) w9 ⟨xj, l1, ⟨pi, pa⟩, 0⟩ := hdep ⟨19, .data⟩ (by simp) rfl _ _ rfl rfl
        obtain ⟨v6, a6, e6, o6, oa6⟩ := d19
        clear hag hdep ho
        refine ⟨fun _ => ?_, fun a9 pa da hal => by simp [alL] at hal⟩
        refine relStep_off rfl ?_
        rotate_left
        have e := Option.some.inj ho
        subst e
        have d19 : HandR wx.heap.size (gF 82) w9 ⟨xj, l1, ⟨pi, pa⟩, 0⟩ := hdep ⟨19, .data⟩ (by simp) rfl _ _ rfl rfl
        obtain ⟨v6, a6, e6, o6, oa6⟩ := d19
        clear hag hdep ho
        refine ⟨fun _ => ?_, fun a9 pa da hal => by simp [alL] at hal⟩
        refine relStep_off rfl ?_
        rotate_left
        have e := Option.some.inj ho
        subst e
        have d19 : HandR wx.heap.size (gF 82) w9 ⟨xj, l1, ⟨pi, pa⟩, 0⟩ := hdep ⟨19, .data⟩ (by simp) rfl _ _ rfl rfl
        obtain ⟨v6, a6, e6, o6, oa6⟩ := d19
        clear hag hdep ho
        refine ⟨fun _ => ?_, fun a9 pa da hal => by simp [alL] at hal⟩
        refine relStep_off rfl ?_
        rotate_left
        have e := Option.some.inj ho
        subst e
        clear hag hdep ho
        refine ⟨fun _ => ?_, fun a9 pa da hal => by simp [alL] at hal⟩
        refine relStep_off rfl ?_
        rotate_left
        have e := Option.some.inj ho
        subst e
        clear hag hdep ho
        refine ⟨fun _ => ?_, fun a9 pa da hal => by simp [alL] at hal⟩
        refine relStep_off rfl ?_
        rotate_left
        have e := Option.some.inj ho
        subst e
        clear hag hdep ho
        refine ⟨fun _ => ?_, fun a9 pa da hal => by simp [alL] at hal⟩
        refine relStep_off rfl ?_
        rotate_left
        have e := Option.some.inj ho
        subst e
        have d24 : ∃ b, (gF 15) = .pointer (some ⟨b, 0, none⟩) ∧ wx.heap.size ≤ b ∧ ((S9 24) = false → Blk w9 b 36 [.slice none 0 0, .slice none 0 0]) ∧ ((S9 24) = true → ∃ h r, Blk w9 b 36 [h, r] ∧ OwnH w9 wx.heap.size h xj.hosts ∧ OwnP w9 wx.heap.size r xj.replicas) := hdep ⟨24, .data⟩ (by simp) rfl _ _ rfl rfl
        obtain ⟨b24, e24, q24, hz24, _⟩ := d24
        have d20 : OwnW wx.heap.size (gF 102) w9 xj := hdep ⟨20, .data⟩ (by simp) rfl _ _ rfl rfl
        obtain ⟨h7, r7, e7, oh7, or7⟩ := d20
        have H7 := oh7.one
        have R7 := or7.one
        clear hag hdep ho
        refine ⟨fun h => by simp [alL] at h, fun a9 pa da hal hS9 hpa hda => ?_⟩
        obtain rfl : 24 = a9 := by simpa [alL] using hal
        obtain rfl := Option.some.inj hpa
        obtain rfl := Option.some.inj hda
        have hz := hz24 hS9
        clear hal hpa hda hz24
        refine relStep_off rfl ?_
        rotate_left
        have e := Option.some.inj ho
        subst e
        have d25 : ∃ b, (gF 16) = .pointer (some ⟨b, 0, none⟩) ∧ wx.heap.size ≤ b ∧ ((S9 25) = false → Blk w9 b 39 [.slice none 0 0]) ∧ ((S9 25) = true → ∃ a, Blk w9 b 39 [a] ∧ OwnA w9 wx.heap.size a l1) := hdep ⟨25, .data⟩ (by simp) rfl _ _ rfl rfl
        obtain ⟨b25, e25, q25, hz25, _⟩ := d25
        have d21 : ∃ a, (gF 103) = .agg #[a] ∧ OwnA w9 wx.heap.size a l1 := hdep ⟨21, .data⟩ (by simp) rfl _ _ rfl rfl
        obtain ⟨a8, e8, oa8⟩ := d21
        have A8 := oa8.one
        clear hag hdep ho
        refine ⟨fun h => by simp [alL] at h, fun a9 pa da hal hS9 hpa hda => ?_⟩
        obtain rfl : 25 = a9 := by simpa [alL] using hal
        obtain rfl := Option.some.inj hpa
        obtain rfl := Option.some.inj hda
        have hz := hz25 hS9
        clear hal hpa hda hz25
        refine relStep_off rfl ?_
        rotate_left
        have e := Option.some.inj ho
        subst e
        have d26 : ∃ b, (gF 17) = .pointer (some ⟨b, 0, none⟩) ∧ wx.heap.size ≤ b ∧ ((S9 26) = false → Blk w9 b 50 [intV 0, .int .u8 0]) ∧ ((S9 26) = true → Blk w9 b 50 [intV pi, .int .u8 pa]) := hdep ⟨26, .data⟩ (by simp) rfl _ _ rfl rfl
        obtain ⟨b26, e26, q26, hz26, _⟩ := d26
        have d22 : (gF 104) = replyV ⟨pi, pa⟩ := hdep ⟨22, .data⟩ (by simp) rfl _ _ rfl rfl
        clear hag hdep ho
        refine ⟨fun h => by simp [alL] at h, fun a9 pa da hal hS9 hpa hda => ?_⟩
        obtain rfl : 26 = a9 := by simpa [alL] using hal
        obtain rfl := Option.some.inj hpa
        obtain rfl := Option.some.inj hda
        have hz := hz26 hS9
        clear hal hpa hda hz26
        refine relStep_off rfl ?_
        rotate_left
        · omega
        all_goals (repeat' first
    | ((with_reducible refine at_row ?_); refine row1_k (by rfl) (by decide) fun _ _ _ _ _ _ _ => ?_)
    | with_reducible first | refine alloc_k fun _ _ _ _ _ _ => ?_ | refine row_k fun _ _ _ _ _ _ => ?_ | refine fork (fun _ => ?_) fun _ => ?_ | refine forkp (fun _ => ?_) fun _ => ?_ | refine forke (fun _ => ?_) fun _ _ => ?_ | refine tail_k fun _ _ _ => ?_ | refine ext_k fun _ _ _ => ?_ | refine need_a ?_ | refine st_agg (by kernel_rfl) rfl (by simp only [natV, intV, S3, *]) fun _ _ _ _ => ?_ | refine wpd_q_a ?_
    | simp (maxDischargeDepth := 3) only [↓X, ↓Y, ↓Q, S1, ↓reduceIte, Nat.reduceEqDiff, Nat.reduceAdd, Int.reduceLT, Int.reduceLE, Int.reduceNeg, Int.reduceBEq, Int.reduceBNe, Int.reduceEq, Nat.reduceLeDiff, Nat.reduceMul, Nat.reduceLT, natV, intV, putAt, idxOk, flatP, *, siteC, requestV, requestC]
    | simp (singlePass := true) (maxDischargeDepth := 99) only [*, S2, Nat.reduceLT, siteC, requestV, requestC])
        all_goals first
          | (refine hand26 ⟨100, ls, ⟨kd, hN, sv, vr⟩⟩ n9 rfl (hS _ FR) (hW _ FR) (XK _ FR) z9 (AK _ FR) hd1 FR FR FR FR hlen1)
          | (exact d18)
          | (exact o6)
          | (exact ⟨_, rfl, oa6⟩)
          | (rename_i b10 w10 n10 k10 s10 q10; exact ⟨_, rfl, FR, fun _ => k10.2.1 _ k10.2.2.1, fun h => absurd h (by decide)⟩)
          | (refine stT_agg (w0 := w9) (vs := [h7, r7]) hz rfl (by kernel_rfl) rfl (by simp [H7, R7]) fun w10 hb10 hc => ⟨b24, hc, q24, ⟨b24, (by first | exact e24 | rfl), q24, fun h => absurd h (by decide), fun _ => ⟨h7, r7, hb10, oh7.fra hz hc, or7.fra hz hc⟩⟩, ?_⟩
             intro iI s v hne hR
             match iI, hR with
             | 0, h | 1, h | 2, h | 3, h | 4, h | 5, h | 6, h | 7, h | 8, h | 9, h | 10, h | 11, h | 12, h | 13, h | 14, h | 15, h | 16, h | 17, h | 22, h | 23, h | 27, h | 28, h | 29, h => exact h
             | 18, h => exact HandR.fr h hz hc (by decide) (by decide) (by first | exact .inl (by decide) | exact .inr hq1)
             | 19, h => exact HandR.fr h hz hc (by decide) (by decide) (by first | exact .inl (by decide) | exact .inr hq1)
             | 20, h => exact OwnW.fr h hz hc
             | 21, h => exact (let ⟨a, e, k⟩ := h; ⟨a, e, Own.fr k hz hc (by first | exact .inl (by decide) | exact .inr hq1)⟩)
             | 24, _ => exact absurd rfl hne
             | 25, ⟨b, e, h1, h2, h3⟩ => exact ⟨b, e, h1, fun hs => Blk.fr (h2 hs) hz hc (by first | exact .inl (by decide) | exact .inr (by simp [natV, intV])), fun hs => (fun h => (let ⟨a, k, o1⟩ := h; ⟨a, k.fra hz hc, Own.fr o1 hz hc (by first | exact .inl (by decide) | exact .inr hq1)⟩)) (h3 hs)⟩
             | 26, ⟨b, e, h1, h2, h3⟩ => exact ⟨b, e, h1, fun hs => Blk.fr (h2 hs) hz hc (by first | exact .inl (by decide) | exact .inr (by simp [natV, intV])), fun hs => (fun h => h.fra hz hc) (h3 hs)⟩)
          | (refine stT_agg (w0 := w9) (vs := [a8]) hz rfl (by kernel_rfl) rfl (by simp [A8]) fun w10 hb10 hc => ⟨b25, hc, q25, ⟨b25, (by first | exact e25 | rfl), q25, fun h => absurd h (by decide), fun _ => ⟨a8, hb10, oa8.fra hz hc⟩⟩, ?_⟩
             intro iI s v hne hR
             match iI, hR with
             | 0, h | 1, h | 2, h | 3, h | 4, h | 5, h | 6, h | 7, h | 8, h | 9, h | 10, h | 11, h | 12, h | 13, h | 14, h | 15, h | 16, h | 17, h | 22, h | 23, h | 27, h | 28, h | 29, h => exact h
             | 18, h => exact HandR.fr h hz hc (by decide) (by decide) (by first | exact .inl (by decide) | exact .inr hq1)
             | 19, h => exact HandR.fr h hz hc (by decide) (by decide) (by first | exact .inl (by decide) | exact .inr hq1)
             | 20, h => exact OwnW.fr h hz hc
             | 21, h => exact (let ⟨a, e, k⟩ := h; ⟨a, e, Own.fr k hz hc (by first | exact .inl (by decide) | exact .inr hq1)⟩)
             | 24, ⟨b, e, h1, h2, h3⟩ => exact ⟨b, e, h1, fun hs => Blk.fr (h2 hs) hz hc (by first | exact .inl (by decide) | exact .inr (by simp [natV, intV])), fun hs => (fun h => (let ⟨a, b, k, o1, o2⟩ := h; ⟨a, b, k.fra hz hc, o1.fra hz hc, o2.fra hz hc⟩)) (h3 hs)⟩
             | 25, _ => exact absurd rfl hne
             | 26, ⟨b, e, h1, h2, h3⟩ => exact ⟨b, e, h1, fun hs => Blk.fr (h2 hs) hz hc (by first | exact .inl (by decide) | exact .inr (by simp [natV, intV])), fun hs => (fun h => h.fra hz hc) (h3 hs)⟩)
          | (refine stT_agg (w0 := w9) (vs := [intV pi, .int .u8 pa]) hz rfl (by kernel_rfl) rfl (by simp [intV, one_int]) fun w10 hb10 hc => ⟨b26, hc, q26, ⟨b26, (by first | exact e26 | rfl), q26, fun h => absurd h (by decide), fun _ => hb10⟩, ?_⟩
             intro iI s v hne hR
             match iI, hR with
             | 0, h | 1, h | 2, h | 3, h | 4, h | 5, h | 6, h | 7, h | 8, h | 9, h | 10, h | 11, h | 12, h | 13, h | 14, h | 15, h | 16, h | 17, h | 22, h | 23, h | 27, h | 28, h | 29, h => exact h
             | 18, h => exact HandR.fr h hz hc (by decide) (by decide) (by first | exact .inl (by decide) | exact .inr hq1)
             | 19, h => exact HandR.fr h hz hc (by decide) (by decide) (by first | exact .inl (by decide) | exact .inr hq1)
             | 20, h => exact OwnW.fr h hz hc
             | 21, h => exact (let ⟨a, e, k⟩ := h; ⟨a, e, Own.fr k hz hc (by first | exact .inl (by decide) | exact .inr hq1)⟩)
             | 24, ⟨b, e, h1, h2, h3⟩ => exact ⟨b, e, h1, fun hs => Blk.fr (h2 hs) hz hc (by first | exact .inl (by decide) | exact .inr (by simp [natV, intV])), fun hs => (fun h => (let ⟨a, b, k, o1, o2⟩ := h; ⟨a, b, k.fra hz hc, o1.fra hz hc, o2.fra hz hc⟩)) (h3 hs)⟩
             | 25, ⟨b, e, h1, h2, h3⟩ => exact ⟨b, e, h1, fun hs => Blk.fr (h2 hs) hz hc (by first | exact .inl (by decide) | exact .inr (by simp [natV, intV])), fun hs => (fun h => (let ⟨a, k, o1⟩ := h; ⟨a, k.fra hz hc, Own.fr o1 hz hc (by first | exact .inl (by decide) | exact .inr hq1)⟩)) (h3 hs)⟩
             | 26, _ => exact absurd rfl hne)
      · intro g9 w9 hx9 hR hag
        have s9 := hx9.st
        have n9 : Now w9 := trivial
        have r9 := Ext.refl w9
        have z9 := hx9.size
        have d23 : (g9 105) = intV 0 := hR 23 _ _ (by decide) rfl rfl
        have d24 : ∃ b, (g9 15) = .pointer (some ⟨b, 0, none⟩) ∧ wx.heap.size ≤ b ∧ (true = false → Blk w9 b 36 [.slice none 0 0, .slice none 0 0]) ∧ (true = true → ∃ h r, Blk w9 b 36 [h, r] ∧ OwnH w9 wx.heap.size h xj.hosts ∧ OwnP w9 wx.heap.size r xj.replicas) := hR 24 _ _ (by decide) rfl rfl
        obtain ⟨b24, e24, q24, _, f24⟩ := d24
        replace f24 := f24 rfl
        have nw24 := Nw.of q24
        obtain ⟨hA, rA, kwA, ohA, orA⟩ := f24
        have KWA := kwA.bk
        have HA := ohA.o
        have RA := orA.o
        clear kwA ohA orA
        have d25 : ∃ b, (g9 16) = .pointer (some ⟨b, 0, none⟩) ∧ wx.heap.size ≤ b ∧ (true = false → Blk w9 b 39 [.slice none 0 0]) ∧ (true = true → ∃ a, Blk w9 b 39 [a] ∧ OwnA w9 wx.heap.size a l1) := hR 25 _ _ (by decide) rfl rfl
        obtain ⟨b25, e25, q25, _, f25⟩ := d25
        replace f25 := f25 rfl
        have nw25 := Nw.of q25
        obtain ⟨aA, kaA, oaA⟩ := f25
        have KAA := kaA.bk
        have AA := oaA.o
        clear kaA oaA
        have d26 : ∃ b, (g9 17) = .pointer (some ⟨b, 0, none⟩) ∧ wx.heap.size ≤ b ∧ (true = false → Blk w9 b 50 [intV 0, .int .u8 0]) ∧ (true = true → Blk w9 b 50 [intV pi, .int .u8 pa]) := hR 26 _ _ (by decide) rfl rfl
        obtain ⟨b26, e26, q26, _, f26⟩ := d26
        replace f26 := f26 rfl
        have nw26 := Nw.of q26
        have KPA := f26.bk
        have a4 := hag.at 4 (by kernel_rfl)
        have a5 := hag.at 5 (by kernel_rfl)
        have a6 := hag.at 6 (by kernel_rfl)
        have a8 := hag.at 8 (by kernel_rfl)
        have a11 := hag.at 11 (by kernel_rfl)
        have a13 := hag.at 13 (by kernel_rfl)
        have a14 := hag.at 14 (by kernel_rfl)
        simp only [S5, ↓reduceIte, Nat.reduceEqDiff, initF, *] at a4 a5 a6 a8 a11 a13 a14
        clear hag hR
        simp only [List.drop_succ_cons, List.drop_zero]
        rename_i q1 q2 q3
        clear q1 q2 q3 f26
        (repeat' first
    | ((with_reducible refine wpd_at 12 ?_); refine wpd_hold ?_)
    | ((with_reducible refine at_row ?_); refine row1_k (by rfl) (by decide) fun _ _ _ _ _ _ _ => ?_)
    | with_reducible first | refine alloc_k fun _ _ _ _ _ _ => ?_ | refine row_k fun _ _ _ _ _ _ => ?_ | refine fork (fun _ => ?_) fun _ => ?_ | refine forkp (fun _ => ?_) fun _ => ?_ | refine forke (fun _ => ?_) fun _ _ => ?_ | refine tail_k fun _ _ _ => ?_ | refine ext_k fun _ _ _ => ?_ | refine need_a ?_ | refine st_agg (by kernel_rfl) rfl (by simp only [natV, intV, S3, *]) fun _ _ _ _ => ?_ | refine wpd_q_a ?_
    | simp (maxDischargeDepth := 3) only [↓X, ↓Y, ↓Q, S1, ↓reduceIte, Nat.reduceEqDiff, Nat.reduceAdd, Int.reduceLT, Int.reduceLE, Int.reduceNeg, Int.reduceBEq, Int.reduceBNe, Int.reduceEq, Nat.reduceLeDiff, Nat.reduceMul, Nat.reduceLT, natV, intV, putAt, idxOk, flatP, *]
    | simp (singlePass := true) (maxDischargeDepth := 99) only [*, S2, Nat.reduceLT])
        unfold wpdH
        refine wpd_rel 15 (fun iI v w9 => match iI with
          | 0 => v = intV 0
          | 1 => v = .bool false
          | 2 => v = .bool false
          | 3 => v = .pointer (some ⟨b26, 1, none⟩)
          | 4 => v = .int .u8 pa
          | 5 => v = .bool false
          | 6 => v = .bool false
          | 7 => v = .bool false
          | 8 => v = .pointer (some ⟨bR, 0, none⟩)
          | 9 => v = .pointer (some ⟨bR, 0, none⟩)
          | 10 => v = .pointer (some ⟨bR, 8, none⟩)
          | 11 => v = .agg #[hvj, rvj]
          | 12 => v = .agg #[hA, rA]
          | 13 => v = .bool true
          | 14 => v = .bool false
          | _ => False) (by kernel_rfl) (by kernel_rfl) (by kernel_rfl) ?_ ?_ ?_
        · intro iI v w1 w2 hR hx9
          match iI, hR with
          | 0, h => exact h
          | 1, h => exact h
          | 2, h => exact h
          | 3, h => exact h
          | 4, h => exact h
          | 5, h => exact h
          | 6, h => exact h
          | 7, h => exact h
          | 8, h => exact h
          | 9, h => exact h
          | 10, h => exact h
          | 11, h => exact h
          | 12, h => exact h
          | 13, h => exact h
          | 14, h => exact h
        · intro iI oO hi ho gF w9 hx9 hdep hag
          have s9 := hx9.st
          have n9 : Now w9 := trivial
          have r9 := Ext.refl w9
          have z9 := hx9.size
          rcases iI with _|_|_|_|_|_|_|_|_|_|_|_|_|_|_|iI
          have e := Option.some.inj ho
          subst e
          have a18 := hag.at 18 (by kernel_rfl)
          simp only [S5, ↓reduceIte, Nat.reduceEqDiff, initF, *] at a18
          clear hag hdep ho
          refine relStep_off rfl ?_
          rotate_left
          have e := Option.some.inj ho
          subst e
          have d0 : (gF 106) = intV 0 := hdep ⟨0, .data⟩ (by simp) rfl _ _ rfl rfl
          clear hag hdep ho
          refine relStep_off rfl ?_
          rotate_left
          have e := Option.some.inj ho
          subst e
          have d1 : (gF 107) = .bool false := hdep ⟨1, .data⟩ (by simp) rfl _ _ rfl rfl
          clear hag hdep ho
          refine relStep_off rfl ?_
          rotate_left
          have e := Option.some.inj ho
          subst e
          have a17 := hag.at 17 (by kernel_rfl)
          simp only [S5, ↓reduceIte, Nat.reduceEqDiff, initF, *] at a17
          have d2 : (gF 108) = .bool false := hdep ⟨2, .guard⟩ (by simp) rfl _ _ rfl rfl
          clear hag hdep ho
          refine relStep_on (j := 2) (want := false) (t := 108) rfl rfl (by rw [d2]; rfl) ?_
          rotate_left
          have e := Option.some.inj ho
          subst e
          have d3 : (gF 109) = .pointer (some ⟨b26, 1, none⟩) := hdep ⟨3, .data⟩ (by simp) rfl _ _ rfl rfl
          have d2 : (gF 108) = .bool false := hdep ⟨2, .guard⟩ (by simp) rfl _ _ rfl rfl
          clear hag hdep ho
          refine relStep_on (j := 2) (want := false) (t := 108) rfl rfl (by rw [d2]; rfl) ?_
          rotate_left
          have e := Option.some.inj ho
          subst e
          have d4 : (gF 110) = .int .u8 pa := hdep ⟨4, .data⟩ (by simp) rfl _ _ rfl rfl
          have d2 : (gF 108) = .bool false := hdep ⟨2, .guard⟩ (by simp) rfl _ _ rfl rfl
          clear hag hdep ho
          refine relStep_on (j := 2) (want := false) (t := 108) rfl rfl (by rw [d2]; rfl) ?_
          rotate_left
          have e := Option.some.inj ho
          subst e
          have d2 : (gF 108) = .bool false := hdep ⟨2, .data⟩ (by simp) rfl _ _ rfl rfl
          have d5 : (gF 111) = .bool false := hdep ⟨5, .data⟩ (by simp) rfl _ _ rfl rfl
          clear hag hdep ho
          refine relStep_off rfl ?_
          rotate_left
          have e := Option.some.inj ho
          subst e
          have d6 : (gF 112) = .bool false := hdep ⟨6, .data⟩ (by simp) rfl _ _ rfl rfl
          clear hag hdep ho
          refine relStep_off rfl ?_
          rotate_left
          have e := Option.some.inj ho
          subst e
          have a11 := hag.at 11 (by kernel_rfl)
          simp only [S5, ↓reduceIte, Nat.reduceEqDiff, initF, *] at a11
          have d7 : (gF 113) = .bool false := hdep ⟨7, .guard⟩ (by simp) rfl _ _ rfl rfl
          clear hag hdep ho
          refine relStep_on (j := 7) (want := false) (t := 113) rfl rfl (by rw [d7]; rfl) ?_
          rotate_left
          have e := Option.some.inj ho
          subst e
          have d8 : (gF 114) = .pointer (some ⟨bR, 0, none⟩) := hdep ⟨8, .data⟩ (by simp) rfl _ _ rfl rfl
          have d7 : (gF 113) = .bool false := hdep ⟨7, .guard⟩ (by simp) rfl _ _ rfl rfl
          clear hag hdep ho
          refine relStep_on (j := 7) (want := false) (t := 113) rfl rfl (by rw [d7]; rfl) ?_
          rotate_left
          have e := Option.some.inj ho
          subst e
          have d9 : (gF 115) = .pointer (some ⟨bR, 0, none⟩) := hdep ⟨9, .data⟩ (by simp) rfl _ _ rfl rfl
          have d7 : (gF 113) = .bool false := hdep ⟨7, .guard⟩ (by simp) rfl _ _ rfl rfl
          clear hag hdep ho
          refine relStep_on (j := 7) (want := false) (t := 113) rfl rfl (by rw [d7]; rfl) ?_
          rotate_left
          have e := Option.some.inj ho
          subst e
          have d10 : (gF 116) = .pointer (some ⟨bR, 8, none⟩) := hdep ⟨10, .data⟩ (by simp) rfl _ _ rfl rfl
          have d7 : (gF 113) = .bool false := hdep ⟨7, .guard⟩ (by simp) rfl _ _ rfl rfl
          clear hag hdep ho
          refine relStep_on (j := 7) (want := false) (t := 113) rfl rfl (by rw [d7]; rfl) ?_
          rotate_left
          have e := Option.some.inj ho
          subst e
          have a15 := hag.at 15 (by kernel_rfl)
          simp only [S5, ↓reduceIte, Nat.reduceEqDiff, initF, *] at a15
          have d7 : (gF 113) = .bool false := hdep ⟨7, .guard⟩ (by simp) rfl _ _ rfl rfl
          clear hag hdep ho
          refine relStep_on (j := 7) (want := false) (t := 113) rfl rfl (by rw [d7]; rfl) ?_
          rotate_left
          have e := Option.some.inj ho
          subst e
          have d11 : (gF 117) = .agg #[hvj, rvj] := hdep ⟨11, .data⟩ (by simp) rfl _ _ rfl rfl
          have d12 : (gF 118) = .agg #[hA, rA] := hdep ⟨12, .data⟩ (by simp) rfl _ _ rfl rfl
          have d7 : (gF 113) = .bool false := hdep ⟨7, .guard⟩ (by simp) rfl _ _ rfl rfl
          clear hag hdep ho
          refine relStep_on (j := 7) (want := false) (t := 113) rfl rfl (by rw [d7]; rfl) ?_
          rotate_left
          have e := Option.some.inj ho
          subst e
          have d13 : (gF 119) = .bool true := hdep ⟨13, .data⟩ (by simp) rfl _ _ rfl rfl
          have d7 : (gF 113) = .bool false := hdep ⟨7, .guard⟩ (by simp) rfl _ _ rfl rfl
          clear hag hdep ho
          refine relStep_on (j := 7) (want := false) (t := 113) rfl rfl (by rw [d7]; rfl) ?_
          rotate_left
          · omega
          all_goals (repeat' first
    | ((with_reducible refine at_row ?_); refine row1_k (by rfl) (by decide) fun _ _ _ _ _ _ _ => ?_)
    | with_reducible first | refine alloc_k fun _ _ _ _ _ _ => ?_ | refine row_k fun _ _ _ _ _ _ => ?_ | refine fork (fun _ => ?_) fun _ => ?_ | refine forkp (fun _ => ?_) fun _ => ?_ | refine forke (fun _ => ?_) fun _ _ => ?_ | refine tail_k fun _ _ _ => ?_ | refine ext_k fun _ _ _ => ?_ | refine need_a ?_ | refine st_agg (by kernel_rfl) rfl (by simp only [natV, intV, S3, *]) fun _ _ _ _ => ?_ | refine wpd_q_a ?_
    | ((with_reducible refine at_f 15 ?_); refine ret_k (ref13Same (B := wx.heap.size) (B' := w9.heap.size) FR FR (XK _ FR) ⟨(HA.1 _ FR).slN (f := stateC), (RA.1 _ FR).slN (f := replC)⟩) fun _ _ _ => ?_)
    | simp (maxDischargeDepth := 3) only [↓X, ↓Y, ↓Q, S1, ↓reduceIte, Nat.reduceEqDiff, Nat.reduceAdd, Int.reduceLT, Int.reduceLE, Int.reduceNeg, Int.reduceBEq, Int.reduceBNe, Int.reduceEq, Nat.reduceLeDiff, Nat.reduceMul, Nat.reduceLT, natV, intV, putAt, idxOk, flatP, *, hpa]
    | simp (singlePass := true) (maxDischargeDepth := 99) only [*, S2, Nat.reduceLT, hpa])
        · intro g9 w9 hx9 hR hag
          have s9 := hx9.st
          have n9 : Now w9 := trivial
          have r9 := Ext.refl w9
          have z9 := hx9.size
          have d7 : (g9 113) = .bool false := hR 7 _ _ (by decide) rfl rfl
          have d14 : (g9 120) = .bool false := hR 14 _ _ (by decide) rfl rfl
          have a4 := hag.at 4 (by kernel_rfl)
          have a5 := hag.at 5 (by kernel_rfl)
          have a6 := hag.at 6 (by kernel_rfl)
          have a8 := hag.at 8 (by kernel_rfl)
          have a11 := hag.at 11 (by kernel_rfl)
          have a13 := hag.at 13 (by kernel_rfl)
          have a14 := hag.at 14 (by kernel_rfl)
          have a16 := hag.at 16 (by kernel_rfl)
          simp only [S5, ↓reduceIte, Nat.reduceEqDiff, initF, *] at a4 a5 a6 a8 a11 a13 a14 a16
          clear hag hR
          simp only [List.drop_succ_cons, List.drop_zero]
          (repeat' first
    | ((with_reducible refine wpd_at 14 ?_); refine wpd_hold ?_)
    | ((with_reducible refine at_row ?_); refine row1_k (by rfl) (by decide) fun _ _ _ _ _ _ _ => ?_)
    | with_reducible first | refine alloc_k fun _ _ _ _ _ _ => ?_ | refine row_k fun _ _ _ _ _ _ => ?_ | refine fork (fun _ => ?_) fun _ => ?_ | refine forkp (fun _ => ?_) fun _ => ?_ | refine forke (fun _ => ?_) fun _ _ => ?_ | refine tail_k fun _ _ _ => ?_ | refine ext_k fun _ _ _ => ?_ | refine need_a ?_ | refine st_agg (by kernel_rfl) rfl (by simp only [natV, intV, S3, *]) fun _ _ _ _ => ?_ | refine wpd_q_a ?_
    | simp (maxDischargeDepth := 3) only [↓X, ↓Y, ↓Q, S1, ↓reduceIte, Nat.reduceEqDiff, Nat.reduceAdd, Int.reduceLT, Int.reduceLE, Int.reduceNeg, Int.reduceBEq, Int.reduceBNe, Int.reduceEq, Nat.reduceLeDiff, Nat.reduceMul, Nat.reduceLT, natV, intV, putAt, idxOk, flatP, *]
    | simp (singlePass := true) (maxDischargeDepth := 99) only [*, S2, Nat.reduceLT])
          rename_i wq nq sq
          obtain ⟨wy, hwy⟩ : ∃ x, x = w9 := ⟨_, rfl⟩
          subst hwy
          unfold wpdH
          refine wpd_rel 7 (fun iI v w9 => match iI with
            | 0 => v = .pointer (some ⟨bR, 0, none⟩)
            | 1 => v = .pointer (some ⟨bR, 0, none⟩)
            | 2 => v = .pointer (some ⟨bR, 10, none⟩)
            | 3 => v = .slice (some ⟨bA, 0, none⟩) si.hosts.length si.hosts.length
            | 4 => v = .int .i64 hN
            | 5 => v = .agg #[aA]
            | 6 => v = .pointer (some ⟨bA, hN, none⟩)
            | _ => False) (by kernel_rfl) (by kernel_rfl) (by kernel_rfl) ?_ ?_ ?_
          · intro iI v w1 w2 hR hx9
            match iI, hR with
            | 0, h => exact h
            | 1, h => exact h
            | 2, h => exact h
            | 3, h => exact h
            | 4, h => exact h
            | 5, h => exact h
            | 6, h => exact h
          · intro iI oO hi ho gF w9 hx9 hdep hag
            have s9 := hx9.st
            have n9 : Now w9 := trivial
            have r9 := Ext.refl w9
            have z9 := hx9.size
            rcases iI with _|_|_|_|_|_|_|iI
            have e := Option.some.inj ho
            subst e
            have a11 := hag.at 11 (by kernel_rfl)
            simp only [S5, ↓reduceIte, Nat.reduceEqDiff, initF, *] at a11
            clear hag hdep ho
            refine relStep_off rfl ?_
            rotate_left
            have e := Option.some.inj ho
            subst e
            have d0 : (gF 122) = .pointer (some ⟨bR, 0, none⟩) := hdep ⟨0, .data⟩ (by simp) rfl _ _ rfl rfl
            clear hag hdep ho
            refine relStep_off rfl ?_
            rotate_left
            have e := Option.some.inj ho
            subst e
            have d1 : (gF 123) = .pointer (some ⟨bR, 0, none⟩) := hdep ⟨1, .data⟩ (by simp) rfl _ _ rfl rfl
            clear hag hdep ho
            refine relStep_off rfl ?_
            rotate_left
            have e := Option.some.inj ho
            subst e
            have d2 : (gF 124) = .pointer (some ⟨bR, 10, none⟩) := hdep ⟨2, .data⟩ (by simp) rfl _ _ rfl rfl
            clear hag hdep ho
            refine relStep_off rfl ?_
            rotate_left
            have e := Option.some.inj ho
            subst e
            have a13 := hag.at 13 (by kernel_rfl)
            simp only [S5, ↓reduceIte, Nat.reduceEqDiff, initF, *] at a13
            clear hag hdep ho
            refine relStep_off rfl ?_
            rotate_left
            have e := Option.some.inj ho
            subst e
            have a16 := hag.at 16 (by kernel_rfl)
            simp only [S5, ↓reduceIte, Nat.reduceEqDiff, initF, *] at a16
            clear hag hdep ho
            refine relStep_off rfl ?_
            rotate_left
            have e := Option.some.inj ho
            subst e
            have d3 : (gF 125) = .slice (some ⟨bA, 0, none⟩) si.hosts.length si.hosts.length := hdep ⟨3, .data⟩ (by simp) rfl _ _ rfl rfl
            have d4 : (gF 126) = .int .i64 hN := hdep ⟨4, .data⟩ (by simp) rfl _ _ rfl rfl
            clear hag hdep ho
            refine relStep_off rfl ?_
            rotate_left
            · omega
            all_goals (repeat' first
    | ((with_reducible refine at_row ?_); refine row1_k (by rfl) (by decide) fun _ _ _ _ _ _ _ => ?_)
    | with_reducible first | refine alloc_k fun _ _ _ _ _ _ => ?_ | refine row_k fun _ _ _ _ _ _ => ?_ | refine fork (fun _ => ?_) fun _ => ?_ | refine forkp (fun _ => ?_) fun _ => ?_ | refine forke (fun _ => ?_) fun _ _ => ?_ | refine tail_k fun _ _ _ => ?_ | refine ext_k fun _ _ _ => ?_ | refine need_a ?_ | refine st_agg (by kernel_rfl) rfl (by simp only [natV, intV, S3, *]) fun _ _ _ _ => ?_ | refine wpd_q_a ?_
    | simp (maxDischargeDepth := 3) only [↓X, ↓Y, ↓Q, S1, ↓reduceIte, Nat.reduceEqDiff, Nat.reduceAdd, Int.reduceLT, Int.reduceLE, Int.reduceNeg, Int.reduceBEq, Int.reduceBNe, Int.reduceEq, Nat.reduceLeDiff, Nat.reduceMul, Nat.reduceLT, natV, intV, putAt, idxOk, flatP, *]
    | simp (singlePass := true) (maxDischargeDepth := 99) only [*, S2, Nat.reduceLT])
          · intro g9 w9 hx9 hR hag
            have s9 := hx9.st
            have n9 : Now w9 := trivial
            have r9 := Ext.refl w9
            have z9 := hx9.size
            have d5 : (g9 127) = .agg #[aA] := hR 5 _ _ (by decide) rfl rfl
            have d6 : (g9 128) = .pointer (some ⟨bA, hN, none⟩) := hR 6 _ _ (by decide) rfl rfl
            have a4 := hag.at 4 (by kernel_rfl)
            have a5 := hag.at 5 (by kernel_rfl)
            have a6 := hag.at 6 (by kernel_rfl)
            have a8 := hag.at 8 (by kernel_rfl)
            have a11 := hag.at 11 (by kernel_rfl)
            have a13 := hag.at 13 (by kernel_rfl)
            have a14 := hag.at 14 (by kernel_rfl)
            simp only [S5, ↓reduceIte, Nat.reduceEqDiff, initF, *] at a4 a5 a6 a8 a11 a13 a14
            clear hag hR
            simp only [List.drop_succ_cons, List.drop_zero]
            (repeat' first
    | ((with_reducible refine at_row ?_); refine row1_k (by rfl) (by decide) fun _ _ _ _ _ _ _ => ?_)
    | with_reducible first | refine alloc_k fun _ _ _ _ _ _ => ?_ | refine row_k fun _ _ _ _ _ _ => ?_ | refine fork (fun _ => ?_) fun _ => ?_ | refine forkp (fun _ => ?_) fun _ => ?_ | refine forke (fun _ => ?_) fun _ _ => ?_ | refine tail_k fun _ _ _ => ?_ | refine ext_k fun _ _ _ => ?_ | refine need_a ?_ | refine st_agg (by kernel_rfl) rfl (by simp only [natV, intV, S3, *]) fun _ _ _ _ => ?_ | refine wpd_q_a ?_
    | simp (maxDischargeDepth := 3) only [↓X, ↓Y, ↓Q, S1, ↓reduceIte, Nat.reduceEqDiff, Nat.reduceAdd, Int.reduceLT, Int.reduceLE, Int.reduceNeg, Int.reduceBEq, Int.reduceBNe, Int.reduceEq, Nat.reduceLeDiff, Nat.reduceMul, Nat.reduceLT, natV, intV, putAt, idxOk, flatP, *]
    | simp (singlePass := true) (maxDischargeDepth := 99) only [*, S2, Nat.reduceLT])
            refine st_aggAt (vs := [aA]) (off := hN) (by kernel_rfl) (by simp only [List.length_singleton]; omega) (by simp [AA.2.2.2.1]) fun wz nz kz sz => ?_
            have ecs : putAt cs hN [aA] = cs.set hN aA := rfl
            rw [ecs] at kz
            have hRlt : bR < wx.heap.size := kR10.2.2.2.1
            have hAlt : bA < wx.heap.size := kA10.2.2.2.1
            have nAA : ¬ blockOf aA = some bA := (AA.1 w9 FR).far hAlt
            have keyA : ∀ c, c < wx.heap.size → ¬ (c = bR ∨ c = bA) → Kp c wx wz := fun c h1 h2 => by
              have h3 : Kp c wx wx := ⟨h1, rfl⟩
              have h4 : ¬ c = bA := fun e => h2 (.inr e)
              exact FR
            have zz : wx.heap.size ≤ wz.heap.size := FR
            have X11 := X10.via keyA hnx zz
            have O11 := AA.1 wz FR
            have A11 := O11.slN (f := replyC)
            have AA11 := O11.o
            have kR11 := (kR10.2.1 wz FR).bk
            have k511 := (k510.2.1 wz FR).bk
            have k411 := (k410.2.1 wz FR).bk
            have hB11 : Bl B w wz := FR
            have hBs11 : B ≤ wz.heap.size := hB11.size
            have h0R : 0 ≤ bR := Nat.zero_le _
            have h0A : 0 ≤ bA := Nat.zero_le _
            have b00 : Bl 0 wj wj := Bl.refl (Nat.zero_le _)
            have b01 : Bl 0 wj wz := FR
            have T11 : Hid (TBn (fun c => c = bR ∨ c = bA) wj wz) := tbn_of b01 (fun c h1 h2 => by
              have h3 : Kp c wj wj := ⟨h1, rfl⟩
              have h4 : ¬ c = bA := fun e => h2 (.inr e)
              have h5 : ¬ c = bR := fun e => h2 (.inl e)
              exact FR) FR
            clear b00 b01 h0R h0A
            have hna : ∀ c, c = bR ∨ c = bA → NB aA c := fun c hc => by rcases hc with rfl | rfl <;> exact O11.nb (by assumption)
            have finA : Hid (∀ we, Ext wz we → Hid (OverI bR bA si.hosts.length hN u si (sl.map (·.x)) wv ls we (j + 1) ∧ TBn (fun c => c = bR ∨ c = bA) wL we)) := fun we he => fin.out we hvj rvj aA xj l1 ((kR11.2.1 wz kR11.2.2.1).ext he) ((kz.2.1 wz kz.2.2.1).ext he) ⟨(X11.1.ext he (Nat.le_refl _)).more he.size, (X11.2.ext he (Nat.le_refl _)).more he.size⟩ hnx ((A11.ext he (Nat.le_refl _)).more he.size) hna hvalj hnd1 (by omega) (T11.out.trans (TBn.of_ext he))
            have rz : Ext wz wz := Ext.refl _
            have XK11 := (X11.sk (Nat.le_refl _)).2.2.2.2
            have bz : Bl wz.heap.size wz wz := Bl.refl (Nat.le_refl _)
            have hkz := kz.2.2.2.1
            clear kR10 kA10 k710 k510 k410 XK AK X10 A10 keyR keyA hxj hlj kR kA k7 k5 k4 hpa KWA KPA KAA HA RA hq1 hd1
            (repeat' first
    | ((with_reducible refine wpd_at 17 ?_); refine wpd_hold ?_)
    | ((with_reducible refine at_row ?_); refine row1_k (by rfl) (by decide) fun _ _ _ _ _ _ _ => ?_)
    | with_reducible first | refine alloc_k fun _ _ _ _ _ _ => ?_ | refine row_k fun _ _ _ _ _ _ => ?_ | refine fork (fun _ => ?_) fun _ => ?_ | refine forkp (fun _ => ?_) fun _ => ?_ | refine forke (fun _ => ?_) fun _ _ => ?_ | refine tail_k fun _ _ _ => ?_ | refine ext_k fun _ _ _ => ?_ | refine need_a ?_ | refine st_agg (by kernel_rfl) rfl (by simp only [natV, intV, S3, *]) fun _ _ _ _ => ?_ | refine wpd_q_a ?_
    | ((with_reducible refine at_f 18 ?_); refine ret_k (hstq _ FR FR) fun _ _ _ => ?_)
    | simp (maxDischargeDepth := 3) only [↓X, ↓Y, ↓Q, S1, ↓reduceIte, Nat.reduceEqDiff, Nat.reduceAdd, Int.reduceLT, Int.reduceLE, Int.reduceNeg, Int.reduceBEq, Int.reduceBNe, Int.reduceEq, Nat.reduceLeDiff, Nat.reduceMul, Nat.reduceLT, natV, intV, putAt, idxOk, flatP, *, requestC]
    | simp (singlePass := true) (maxDischargeDepth := 99) only [*, S2, Nat.reduceLT, requestC])
            rotate_left
            · refine next_g hj hjt ?_
              (repeat' first
    | ((with_reducible refine at_row ?_); refine row1_k (by rfl) (by decide) fun _ _ _ _ _ _ _ => ?_)
    | with_reducible first | refine alloc_k fun _ _ _ _ _ _ => ?_ | refine row_k fun _ _ _ _ _ _ => ?_ | refine fork (fun _ => ?_) fun _ => ?_ | refine forkp (fun _ => ?_) fun _ => ?_ | refine forke (fun _ => ?_) fun _ _ => ?_ | refine tail_k fun _ _ _ => ?_ | refine ext_k fun _ _ _ => ?_ | refine need_a ?_ | refine st_agg (by kernel_rfl) rfl (by simp only [natV, intV, S3, *]) fun _ _ _ _ => ?_ | refine wpd_q_a ?_
    | simp (maxDischargeDepth := 3) only [↓X, ↓Y, ↓Q, S1, ↓reduceIte, Nat.reduceEqDiff, Nat.reduceAdd, Int.reduceLT, Int.reduceLE, Int.reduceNeg, Int.reduceBEq, Int.reduceBNe, Int.reduceEq, Nat.reduceLeDiff, Nat.reduceMul, Nat.reduceLT, natV, intV, putAt, idxOk, flatP, *]
    | simp (singlePass := true) (maxDischargeDepth := 99) only [*, S2, Nat.reduceLT])
              all_goals (refine finA.out _ ?_; exact FR)
            · refine next_g hj hjt ?_
              (repeat' first
    | ((with_reducible refine at_row ?_); refine row1_k (by rfl) (by decide) fun _ _ _ _ _ _ _ => ?_)
    | with_reducible first | refine alloc_k fun _ _ _ _ _ _ => ?_ | refine row_k fun _ _ _ _ _ _ => ?_ | refine fork (fun _ => ?_) fun _ => ?_ | refine forkp (fun _ => ?_) fun _ => ?_ | refine forke (fun _ => ?_) fun _ _ => ?_ | refine tail_k fun _ _ _ => ?_ | refine ext_k fun _ _ _ => ?_ | refine need_a ?_ | refine st_agg (by kernel_rfl) rfl (by simp only [natV, intV, S3, *]) fun _ _ _ _ => ?_ | refine wpd_q_a ?_
    | simp (maxDischargeDepth := 3) only [↓X, ↓Y, ↓Q, S1, ↓reduceIte, Nat.reduceEqDiff, Nat.reduceAdd, Int.reduceLT, Int.reduceLE, Int.reduceNeg, Int.reduceBEq, Int.reduceBNe, Int.reduceEq, Nat.reduceLeDiff, Nat.reduceMul, Nat.reduceLT, natV, intV, putAt, idxOk, flatP, *]
    | simp (singlePass := true) (maxDischargeDepth := 99) only [*, S2, Nat.reduceLT])
              all_goals (refine finA.out _ ?_; exact FR)
            rename_i bQ wq1 nq1 kq1 sq1 qq1 wq2 nq2 kQ sq2 wE nE sE hqbt hqhN
            subst hqhN
            subst hqbt
            obtain ⟨q0, hq3, hq0⟩ : ∃ q0, IntKind.i64.wrap ((IntKind.u64.wrap qid).tmod 40) = q0 ∧ Hid (0 ≤ q0 ∧ q0 < 40) := by
              refine ⟨_, rfl, ?_⟩
              have h0 : 0 ≤ IntKind.u64.wrap qid := by rw [IntKind.wrap_u64]; omega
              have h1 := Int.tmod_nonneg 40 h0
              have h2 := Int.tmod_lt_of_pos (IntKind.u64.wrap qid) (show (0 : Int) < 40 by decide)
              show 0 ≤ _ ∧ _ < 40
              rw [wrap_i64_id] <;> omega
            have hq4 : IntKind.i64.wrap (1 + q0) = 1 + q0 := by have := hq0.out; rw [wrap_i64_id] <;> omega
            have hRz : bR < wz.heap.size := kR11.2.2.2.1
            have hnQ : ¬ bR = bQ ∧ ¬ bA = bQ := ⟨(qq1.1 bR hRz).1, (qq1.1 bA hkz).1⟩
            have hBQ : B ≤ bQ := FR
            have hzQ : wz.heap.size ≤ bQ := FR
            have kQE := (kQ.2.1 wE FR).bk
            have nAQ : ¬ blockOf aA = some bQ := fun e => by have := (O11.lt bQ (by rw [← O11.block]; exact e)).2; omega
            clear finA sz kq1 kQ
            have hRB : ∀ b ∈ [bQ], b < wE.heap.size := by simp only [List.mem_cons, List.not_mem_nil, or_false, forall_eq_or_imp, forall_eq]; exact FR
            unfold wpdH
            refine wpd_relL 12 [bQ] [(11, bQ)] rfl (fun iI v w9 => match iI with
              | 0 => v = .pointer (some ⟨bQ, 0, none⟩)
              | 1 => v = intV qid
              | 2 => v = .int .u64 (IntKind.u64.wrap qid)
              | 3 => v = .int .u64 ((IntKind.u64.wrap qid).tmod 40)
              | 4 => v = .int .i64 q0
              | 5 => v = .int .i64 (1 + q0)
              | 6 => v = .pointer (some ⟨bR, 0, none⟩)
              | 7 => v = .pointer (some ⟨bR, 0, none⟩)
              | 8 => v = .pointer (some ⟨bR, 11, none⟩)
              | 9 => v = intV (now + L[j].later)
              | 10 => v = .pointer (some ⟨bQ, 0, none⟩)
              | 11 => Blk w9 bQ 44 [.int .i64 (1 + q0), .int .i64 ql, .int .u8 qk, .int .i64 hN, .int .i64 qs, .int .i64 qv]
              | _ => False) (by kernel_rfl) (by kernel_rfl) (by kernel_rfl) hRB (by simp only [List.nodup_cons, List.mem_cons, List.not_mem_nil, or_false, not_or, List.nodup_nil, not_false_eq_true, and_true] <;> exact FR) ?_ ?_ ?_
            · intro iI v w1 w2 hR hx9
              match iI, hR with
              | 0, h => exact h
              | 1, h => exact h
              | 2, h => exact h
              | 3, h => exact h
              | 4, h => exact h
              | 5, h => exact h
              | 6, h => exact h
              | 7, h => exact h
              | 8, h => exact h
              | 9, h => exact h
              | 10, h => exact h
              | 11, h => exact h.tb hx9 (fun hX => hX.2 rfl)
            · intro iI oO hi ho gF w9 hx9 hdep hag hun
              have s9 := hx9.sb
              simp only [Sb, List.mem_cons, List.not_mem_nil, or_false, forall_eq_or_imp, forall_eq] at s9
              have n9 : Now w9 := trivial
              have r9 := Ext.refl w9
              have z9 := hx9.size
              rcases iI with _|_|_|_|_|_|_|_|_|_|_|_|iI
              have e := Option.some.inj ho
              subst e
              have a19 := hag.at 19 (by kernel_rfl)
              simp only [S5, ↓reduceIte, Nat.reduceEqDiff, initF, *] at a19
              have un11 : Kp bQ wE w9 := ⟨hRB _ (by simp), hun 11 _ (by decide) rfl (by kernel_rfl)⟩
              clear hag hdep ho hun
              refine ⟨fun _ => ?_, fun b hb => by simp [bkL] at hb⟩
              refine relStep_off rfl ?_
              rotate_left
              have e := Option.some.inj ho
              subst e
              have d0 : (gF 147) = .pointer (some ⟨bQ, 0, none⟩) := hdep ⟨0, .data⟩ (by simp) rfl _ _ rfl rfl
              have un11 : Kp bQ wE w9 := ⟨hRB _ (by simp), hun 11 _ (by decide) rfl (by kernel_rfl)⟩
              clear hag hdep ho hun
              refine ⟨fun _ => ?_, fun b hb => by simp [bkL] at hb⟩
              refine relStep_off rfl ?_
              rotate_left
              have e := Option.some.inj ho
              subst e
              have d1 : (gF 148) = intV qid := hdep ⟨1, .data⟩ (by simp) rfl _ _ rfl rfl
              have un11 : Kp bQ wE w9 := ⟨hRB _ (by simp), hun 11 _ (by decide) rfl (by kernel_rfl)⟩
              clear hag hdep ho hun
              refine ⟨fun _ => ?_, fun b hb => by simp [bkL] at hb⟩
              refine relStep_off rfl ?_
              rotate_left
              have e := Option.some.inj ho
              subst e
              have d2 : (gF 149) = .int .u64 (IntKind.u64.wrap qid) := hdep ⟨2, .data⟩ (by simp) rfl _ _ rfl rfl
              have un11 : Kp bQ wE w9 := ⟨hRB _ (by simp), hun 11 _ (by decide) rfl (by kernel_rfl)⟩
              clear hag hdep ho hun
              refine ⟨fun _ => ?_, fun b hb => by simp [bkL] at hb⟩
              refine relStep_off rfl ?_
              rotate_left
              have e := Option.some.inj ho
              subst e
              have d3 : (gF 150) = .int .u64 ((IntKind.u64.wrap qid).tmod 40) := hdep ⟨3, .data⟩ (by simp) rfl _ _ rfl rfl
              have un11 : Kp bQ wE w9 := ⟨hRB _ (by simp), hun 11 _ (by decide) rfl (by kernel_rfl)⟩
              clear hag hdep ho hun
              refine ⟨fun _ => ?_, fun b hb => by simp [bkL] at hb⟩
              refine relStep_off rfl ?_
              rotate_left
              have e := Option.some.inj ho
              subst e
              have d4 : (gF 151) = .int .i64 q0 := hdep ⟨4, .data⟩ (by simp) rfl _ _ rfl rfl
              have un11 : Kp bQ wE w9 := ⟨hRB _ (by simp), hun 11 _ (by decide) rfl (by kernel_rfl)⟩
              clear hag hdep ho hun
              refine ⟨fun _ => ?_, fun b hb => by simp [bkL] at hb⟩
              refine relStep_off rfl ?_
              rotate_left
              have e := Option.some.inj ho
              subst e
              have a11 := hag.at 11 (by kernel_rfl)
              simp only [S5, ↓reduceIte, Nat.reduceEqDiff, initF, *] at a11
              clear hag hdep ho hun
              refine ⟨fun _ => ?_, fun b hb => by simp [bkL] at hb⟩
              refine relStep_off rfl ?_
              rotate_left
              have e := Option.some.inj ho
              subst e
              have d6 : (gF 153) = .pointer (some ⟨bR, 0, none⟩) := hdep ⟨6, .data⟩ (by simp) rfl _ _ rfl rfl
              clear hag hdep ho hun
              refine ⟨fun _ => ?_, fun b hb => by simp [bkL] at hb⟩
              refine relStep_off rfl ?_
              rotate_left
              have e := Option.some.inj ho
              subst e
              have d7 : (gF 154) = .pointer (some ⟨bR, 0, none⟩) := hdep ⟨7, .data⟩ (by simp) rfl _ _ rfl rfl
              clear hag hdep ho hun
              refine ⟨fun _ => ?_, fun b hb => by simp [bkL] at hb⟩
              refine relStep_off rfl ?_
              rotate_left
              have e := Option.some.inj ho
              subst e
              have d8 : (gF 155) = .pointer (some ⟨bR, 11, none⟩) := hdep ⟨8, .data⟩ (by simp) rfl _ _ rfl rfl
              clear hag hdep ho hun
              refine ⟨fun _ => ?_, fun b hb => by simp [bkL] at hb⟩
              refine relStep_off rfl ?_
              rotate_left
              have e := Option.some.inj ho
              subst e
              have a19 := hag.at 19 (by kernel_rfl)
              simp only [S5, ↓reduceIte, Nat.reduceEqDiff, initF, *] at a19
              have un11 : Kp bQ wE w9 := ⟨hRB _ (by simp), hun 11 _ (by decide) rfl (by kernel_rfl)⟩
              clear hag hdep ho hun
              refine ⟨fun _ => ?_, fun b hb => by simp [bkL] at hb⟩
              refine relStep_off rfl ?_
              rotate_left
              have e := Option.some.inj ho
              subst e
              have d5 : (gF 152) = .int .i64 (1 + q0) := hdep ⟨5, .data⟩ (by simp) rfl _ _ rfl rfl
              have d10 : (gF 157) = .pointer (some ⟨bQ, 0, none⟩) := hdep ⟨10, .data⟩ (by simp) rfl _ _ rfl rfl
              clear hag hdep ho hun
              refine ⟨fun h => by simp [bkL] at h, fun b hb hU => ?_⟩
              obtain rfl : bQ = b := by simpa [bkL] using hb
              refine relStep_off rfl ?_
              rotate_left
              · omega
              all_goals (repeat' first
    | ((with_reducible refine at_row ?_); refine row1_k (by rfl) (by decide) fun _ _ _ _ _ _ _ => ?_)
    | with_reducible first | refine alloc_k fun _ _ _ _ _ _ => ?_ | refine row_k fun _ _ _ _ _ _ => ?_ | refine fork (fun _ => ?_) fun _ => ?_ | refine forkp (fun _ => ?_) fun _ => ?_ | refine forke (fun _ => ?_) fun _ _ => ?_ | refine tail_k fun _ _ _ => ?_ | refine ext_k fun _ _ _ => ?_ | refine need_a ?_ | refine st_agg (by kernel_rfl) rfl (by simp only [natV, intV, S3, *]) fun _ _ _ _ => ?_ | refine wpd_q_a ?_
    | simp (maxDischargeDepth := 3) only [↓X, ↓Y, ↓Q, S1, ↓reduceIte, Nat.reduceEqDiff, Nat.reduceAdd, Int.reduceLT, Int.reduceLE, Int.reduceNeg, Int.reduceBEq, Int.reduceBNe, Int.reduceEq, Nat.reduceLeDiff, Nat.reduceMul, Nat.reduceLT, natV, intV, putAt, idxOk, flatP, *]
    | simp (singlePass := true) (maxDischargeDepth := 99) only [*, S2, Nat.reduceLT])
              all_goals first
                | (exact store_intro (by kernel_rfl) (show Blk w9 bQ _ _ from hU.trans (kQE.2.1 wE kQE.2.2.1)) (by simp) rfl fun w' hb' hc' => ⟨hc', hb'⟩)
            · intro g9 w9 hx9 hR hS9 hag
              have s9 := hx9.sb
              simp only [Sb, List.mem_cons, List.not_mem_nil, or_false, forall_eq_or_imp, forall_eq] at s9
              have n9 : Now w9 := trivial
              have r9 := Ext.refl w9
              have z9 := hx9.size
              have d9 : (g9 156) = intV (now + L[j].later) := hR 9 _ _ (by decide) rfl rfl
              obtain ⟨vs11, d11⟩ := hS9 11 _ (by decide) rfl
              replace d11 : Blk w9 bQ 44 [.int .i64 (1 + q0), .int .i64 ql, .int .u8 qk, .int .i64 hN, .int .i64 qs, .int .i64 qv] := d11
              have a4 := hag.at 4 (by kernel_rfl)
              have a5 := hag.at 5 (by kernel_rfl)
              have a6 := hag.at 6 (by kernel_rfl)
              have a8 := hag.at 8 (by kernel_rfl)
              have a11 := hag.at 11 (by kernel_rfl)
              have a13 := hag.at 13 (by kernel_rfl)
              have a14 := hag.at 14 (by kernel_rfl)
              have a19 := hag.at 19 (by kernel_rfl)
              simp only [S5, ↓reduceIte, Nat.reduceEqDiff, initF, *] at a4 a5 a6 a8 a11 a13 a14 a19
              clear hag hR hS9
              simp only [List.drop_succ_cons, List.drop_zero]
              have kQ9 := d11.bk
              clear d11 kQE
              (repeat' first
    | ((with_reducible refine wpd_at 18 ?_); refine wpd_hold ?_)
    | refine st_one (by kernel_rfl) (by simp) rfl fun _ _ _ _ => ?_
    | ((with_reducible refine at_row ?_); refine row1_k (by rfl) (by decide) fun _ _ _ _ _ _ _ => ?_)
    | with_reducible first | refine alloc_k fun _ _ _ _ _ _ => ?_ | refine row_k fun _ _ _ _ _ _ => ?_ | refine fork (fun _ => ?_) fun _ => ?_ | refine forkp (fun _ => ?_) fun _ => ?_ | refine forke (fun _ => ?_) fun _ _ => ?_ | refine tail_k fun _ _ _ => ?_ | refine ext_k fun _ _ _ => ?_ | refine need_a ?_ | refine st_agg (by kernel_rfl) rfl (by simp only [natV, intV, S3, *]) fun _ _ _ _ => ?_ | refine wpd_q_a ?_
    | simp (maxDischargeDepth := 3) only [↓X, ↓Y, ↓Q, S1, ↓reduceIte, Nat.reduceEqDiff, Nat.reduceAdd, Int.reduceLT, Int.reduceLE, Int.reduceNeg, Int.reduceBEq, Int.reduceBNe, Int.reduceEq, Nat.reduceLeDiff, Nat.reduceMul, Nat.reduceLT, natV, intV, putAt, idxOk, flatP, *]
    | simp (singlePass := true) (maxDischargeDepth := 99) only [*, S2, Nat.reduceLT])
              rename_i wf nf kQf sf
              have hBf : Bl B w wf := FR
              have hBsf : B ≤ wf.heap.size := hBf.size
              have zf : wz.heap.size ≤ wf.heap.size := FR
              have Of := AA11.1 wf FR
              have Af := (Of.slN (f := replyC)).k (Nat.le_refl _)
              have kAf := (kz.2.1 wf FR).bk
              have kRf := (kR11.2.1 wf FR).bk
              have k5f := (k511.2.1 wf FR).bk
              have k4f := (k411.2.1 wf FR).bk
              have XKf := XK11 wf FR
              have XK2 := (XKf.sk zf).2.2.2.2
              have bzf : Bl wz.heap.size wz wf := FR
              have hbf : Bl wf.heap.size wf wf := Bl.refl (Nat.le_refl _)
              have hbzf : Bl wz.heap.size wf wf := Bl.refl zf
              have AKf := Af.2.2.2.2.2.2.1
              obtain ⟨x2, l2, ⟨pj, pb⟩, hd2, hval2, hnd2, hl2n, hl2⟩ := over_q (now := now + L[j].later) (r := ⟨1 + q0, now + L[j].later, ⟨qk, hN, qs, qv⟩⟩) hvalj hqb.out (by have := hq0.out; simp only; omega) (by have := hls0.out; have := hlat.out; simp only; omega) (by have := hls0.out; have := hlat.out; omega) (by omega) hnd1
              have hq2 := head_ne hl2n fun p hp => (hnd2 p hp).1
              have hlen2 : l1.length ≤ 1000000 := by omega
              have hcs2 : (cs.set hN aA)[hN]? = some aA := List.getElem?_set_self (by omega)
              have hzR := kRf.2.2.2.1
              have hzA := kAf.2.2.2.1
              obtain ⟨wg, hwg⟩ : ∃ x, x = wf := ⟨_, rfl⟩
              subst hwg
              unfold wpdH
              refine wpd_relS 30 [(27, 24), (28, 25), (29, 26)] (fun iI s v w9 => match iI with
                | 0 => v = .agg (siteC u si).toArray
                | 1 => v = .agg #[wv]
                | 2 => v = .pointer (some ⟨bR, 0, none⟩)
                | 3 => v = .pointer (some ⟨bR, 0, none⟩)
                | 4 => v = .pointer (some ⟨bR, 8, none⟩)
                | 5 => v = .agg #[hvj, rvj]
                | 6 => v = .pointer (some ⟨bR, 0, none⟩)
                | 7 => v = .pointer (some ⟨bR, 0, none⟩)
                | 8 => v = .pointer (some ⟨bR, 10, none⟩)
                | 9 => v = .slice (some ⟨bA, 0, none⟩) si.hosts.length si.hosts.length
                | 10 => v = .int .i64 hN
                | 11 => v = .pointer (some ⟨bA, hN, none⟩)
                | 12 => v = .agg #[aA]
                | 13 => v = requestV ⟨1 + q0, now + L[j].later, ⟨qk, hN, qs, qv⟩⟩
                | 14 => v = .pointer (some ⟨bR, 0, none⟩)
                | 15 => v = .pointer (some ⟨bR, 0, none⟩)
                | 16 => v = .pointer (some ⟨bR, 11, none⟩)
                | 17 => v = intV (now + L[j].later)
                | 18 => HandR wg.heap.size v w9 ⟨x2, l2, ⟨pj, pb⟩, 0⟩
                | 19 => HandR wg.heap.size v w9 ⟨x2, l2, ⟨pj, pb⟩, 0⟩
                | 20 => OwnW wg.heap.size v w9 x2
                | 21 => ∃ a, v = .agg #[a] ∧ OwnA w9 wg.heap.size a l2
                | 22 => v = replyV ⟨pj, pb⟩
                | 23 => v = intV 0
                | 24 => ∃ b, v = .pointer (some ⟨b, 0, none⟩) ∧ wg.heap.size ≤ b ∧ (s = false → Blk w9 b 36 [.slice none 0 0, .slice none 0 0]) ∧ (s = true → ∃ h r, Blk w9 b 36 [h, r] ∧ OwnH w9 wg.heap.size h x2.hosts ∧ OwnP w9 wg.heap.size r x2.replicas)
                | 25 => ∃ b, v = .pointer (some ⟨b, 0, none⟩) ∧ wg.heap.size ≤ b ∧ (s = false → Blk w9 b 39 [.slice none 0 0]) ∧ (s = true → ∃ a, Blk w9 b 39 [a] ∧ OwnA w9 wg.heap.size a l2)
                | 26 => ∃ b, v = .pointer (some ⟨b, 0, none⟩) ∧ wg.heap.size ≤ b ∧ (s = false → Blk w9 b 50 [intV 0, .int .u8 0]) ∧ (s = true → Blk w9 b 50 [intV pj, .int .u8 pb])
                | 27 => True
                | 28 => True
                | 29 => True
                | _ => False) (by kernel_rfl) (by kernel_rfl) (by kernel_rfl) (by kernel_rfl) ?_ ?_ ?_
              · intro iI s v w1 w2 hR hx9
                match iI, hR with
                | 0, h => exact h
                | 1, h => exact h
                | 2, h => exact h
                | 3, h => exact h
                | 4, h => exact h
                | 5, h => exact h
                | 6, h => exact h
                | 7, h => exact h
                | 8, h => exact h
                | 9, h => exact h
                | 10, h => exact h
                | 11, h => exact h
                | 12, h => exact h
                | 13, h => exact h
                | 14, h => exact h
                | 15, h => exact h
                | 16, h => exact h
                | 17, h => exact h
                | 18, h => exact HandR.ext h hx9
                | 19, h => exact HandR.ext h hx9
                | 20, h => exact OwnW.ext h hx9
                | 21, h => exact (let ⟨a, e, k⟩ := h; ⟨a, e, k.ext hx9⟩)
                | 22, h => exact h
                | 23, h => exact h
                | 24, ⟨b, e, h1, h2, h3⟩ => exact ⟨b, e, h1, fun hs => (h2 hs).ext hx9, fun hs => (fun h => (let ⟨a, b, k, o1, o2⟩ := h; ⟨a, b, k.ext hx9, o1.ext hx9, o2.ext hx9⟩)) (h3 hs)⟩
                | 25, ⟨b, e, h1, h2, h3⟩ => exact ⟨b, e, h1, fun hs => (h2 hs).ext hx9, fun hs => (fun h => (let ⟨a, k, o1⟩ := h; ⟨a, k.ext hx9, o1.ext hx9⟩)) (h3 hs)⟩
                | 26, ⟨b, e, h1, h2, h3⟩ => exact ⟨b, e, h1, fun hs => (h2 hs).ext hx9, fun hs => (fun h => h.ext hx9) (h3 hs)⟩
                | 27, h => exact h
                | 28, h => exact h
                | 29, h => exact h
              · intro iI oO hi ho gF w9 S9 hx9 hdep hag
                have s9 := hx9.st
                have n9 : Now w9 := trivial
                have r9 := Ext.refl w9
                have z9 := hx9.size
                rcases iI with _|_|_|_|_|_|_|_|_|_|_|_|_|_|_|_|_|_|_|_|_|_|_|_|_|_|_|_|_|_|iI
                have e := Option.some.inj ho
                subst e
                have a5 := hag.at 5 (by kernel_rfl)
                simp only [S5, ↓reduceIte, Nat.reduceEqDiff, initF, *] at a5
                clear hag hdep ho
                refine ⟨fun _ => ?_, fun a9 pa da hal => by simp [alL] at hal⟩
                refine relStep_off rfl ?_
                rotate_left
                have e := Option.some.inj ho
                subst e
                have a6 := hag.at 6 (by kernel_rfl)
                simp only [S5, ↓reduceIte, Nat.reduceEqDiff, initF, *] at a6
                clear hag hdep ho
                refine ⟨fun _ => ?_, fun a9 pa da hal => by simp [alL] at hal⟩
                refine relStep_off rfl ?_
                rotate_left
                have e := Option.some.inj ho
                subst e
                have a11 := hag.at 11 (by kernel_rfl)
                simp only [S5, ↓reduceIte, Nat.reduceEqDiff, initF, *] at a11
                clear hag hdep ho
                refine ⟨fun _ => ?_, fun a9 pa da hal => by simp [alL] at hal⟩
                refine relStep_off rfl ?_
                rotate_left
                have e := Option.some.inj ho
                subst e
                have d2 : (gF 162) = .pointer (some ⟨bR, 0, none⟩) := hdep ⟨2, .data⟩ (by simp) rfl _ _ rfl rfl
                clear hag hdep ho
                refine ⟨fun _ => ?_, fun a9 pa da hal => by simp [alL] at hal⟩
                refine relStep_off rfl ?_
                rotate_left
                have e := Option.some.inj ho
                subst e
                have d3 : (gF 163) = .pointer (some ⟨bR, 0, none⟩) := hdep ⟨3, .data⟩ (by simp) rfl _ _ rfl rfl
                clear hag hdep ho
                refine ⟨fun _ => ?_, fun a9 pa da hal => by simp [alL] at hal⟩
                refine relStep_off rfl ?_
                rotate_left
                have e := Option.some.inj ho
                subst e
                have d4 : (gF 164) = .pointer (some ⟨bR, 8, none⟩) := hdep ⟨4, .data⟩ (by simp) rfl _ _ rfl rfl
                clear hag hdep ho
                refine ⟨fun _ => ?_, fun a9 pa da hal => by simp [alL] at hal⟩
                refine relStep_off rfl ?_
                rotate_left
                have e := Option.some.inj ho
                subst e
                have a11 := hag.at 11 (by kernel_rfl)
                simp only [S5, ↓reduceIte, Nat.reduceEqDiff, initF, *] at a11
                clear hag hdep ho
                refine ⟨fun _ => ?_, fun a9 pa da hal => by simp [alL] at hal⟩
                refine relStep_off rfl ?_
                rotate_left
                have e := Option.some.inj ho
                subst e
                have d6 : (gF 166) = .pointer (some ⟨bR, 0, none⟩) := hdep ⟨6, .data⟩ (by simp) rfl _ _ rfl rfl
                clear hag hdep ho
                refine ⟨fun _ => ?_, fun a9 pa da hal => by simp [alL] at hal⟩
                refine relStep_off rfl ?_
                rotate_left
                have e := Option.some.inj ho
                subst e
                have d7 : (gF 167) = .pointer (some ⟨bR, 0, none⟩) := hdep ⟨7, .data⟩ (by simp) rfl _ _ rfl rfl
                clear hag hdep ho
                refine ⟨fun _ => ?_, fun a9 pa da hal => by simp [alL] at hal⟩
                refine relStep_off rfl ?_
                rotate_left
                have e := Option.some.inj ho
                subst e
                have d8 : (gF 168) = .pointer (some ⟨bR, 10, none⟩) := hdep ⟨8, .data⟩ (by simp) rfl _ _ rfl rfl
                clear hag hdep ho
                refine ⟨fun _ => ?_, fun a9 pa da hal => by simp [alL] at hal⟩
                refine relStep_off rfl ?_
                rotate_left
                have e := Option.some.inj ho
                subst e
                have a13 := hag.at 13 (by kernel_rfl)
                simp only [S5, ↓reduceIte, Nat.reduceEqDiff, initF, *] at a13
                clear hag hdep ho
                refine ⟨fun _ => ?_, fun a9 pa da hal => by simp [alL] at hal⟩
                refine relStep_off rfl ?_
                rotate_left
                have e := Option.some.inj ho
                subst e
                have d9 : (gF 169) = .slice (some ⟨bA, 0, none⟩) si.hosts.length si.hosts.length := hdep ⟨9, .data⟩ (by simp) rfl _ _ rfl rfl
                have d10 : (gF 170) = .int .i64 hN := hdep ⟨10, .data⟩ (by simp) rfl _ _ rfl rfl
                clear hag hdep ho
                refine ⟨fun _ => ?_, fun a9 pa da hal => by simp [alL] at hal⟩
                refine relStep_off rfl ?_
                rotate_left
                have e := Option.some.inj ho
                subst e
                have d11 : (gF 171) = .pointer (some ⟨bA, hN, none⟩) := hdep ⟨11, .data⟩ (by simp) rfl _ _ rfl rfl
                clear hag hdep ho
                refine ⟨fun _ => ?_, fun a9 pa da hal => by simp [alL] at hal⟩
                refine relStep_off rfl ?_
                rotate_left
                have e := Option.some.inj ho
                subst e
                have a19 := hag.at 19 (by kernel_rfl)
                simp only [S5, ↓reduceIte, Nat.reduceEqDiff, initF, *] at a19
                clear hag hdep ho
                refine ⟨fun _ => ?_, fun a9 pa da hal => by simp [alL] at hal⟩
                refine relStep_off rfl ?_
                rotate_left
                have e := Option.some.inj ho
                subst e
                have a11 := hag.at 11 (by kernel_rfl)
                simp only [S5, ↓reduceIte, Nat.reduceEqDiff, initF, *] at a11
                clear hag hdep ho
                refine ⟨fun _ => ?_, fun a9 pa da hal => by simp [alL] at hal⟩
                refine relStep_off rfl ?_
                rotate_left
                have e := Option.some.inj ho
                subst e
                have d14 : (gF 174) = .pointer (some ⟨bR, 0, none⟩) := hdep ⟨14, .data⟩ (by simp) rfl _ _ rfl rfl
                clear hag hdep ho
                refine ⟨fun _ => ?_, fun a9 pa da hal => by simp [alL] at hal⟩
                refine relStep_off rfl ?_
                rotate_left
                have e := Option.some.inj ho
                subst e
                have d15 : (gF 175) = .pointer (some ⟨bR, 0, none⟩) := hdep ⟨15, .data⟩ (by simp) rfl _ _ rfl rfl
                clear hag hdep ho
                refine ⟨fun _ => ?_, fun a9 pa da hal => by simp [alL] at hal⟩
                refine relStep_off rfl ?_
                rotate_left
                have e := Option.some.inj ho
                subst e
                have d16 : (gF 176) = .pointer (some ⟨bR, 11, none⟩) := hdep ⟨16, .data⟩ (by simp) rfl _ _ rfl rfl
                clear hag hdep ho
                refine ⟨fun _ => ?_, fun a9 pa da hal => by simp [alL] at hal⟩
                refine relStep_off rfl ?_
                rotate_left
                have e := Option.some.inj ho
                subst e
                have d0 : (gF 160) = .agg (siteC u si).toArray := hdep ⟨0, .data⟩ (by simp) rfl _ _ rfl rfl
                have d1 : (gF 161) = .agg #[wv] := hdep ⟨1, .data⟩ (by simp) rfl _ _ rfl rfl
                have d5 : (gF 165) = .agg #[hvj, rvj] := hdep ⟨5, .data⟩ (by simp) rfl _ _ rfl rfl
                have d12 : (gF 172) = .agg #[aA] := hdep ⟨12, .data⟩ (by simp) rfl _ _ rfl rfl
                have d13 : (gF 173) = requestV ⟨1 + q0, now + L[j].later, ⟨qk, hN, qs, qv⟩⟩ := hdep ⟨13, .data⟩ (by simp) rfl _ _ rfl rfl
                have d17 : (gF 177) = intV (now + L[j].later) := hdep ⟨17, .data⟩ (by simp) rfl _ _ rfl rfl
                clear hag hdep ho
                refine ⟨fun _ => ?_, fun a9 pa da hal => by simp [alL] at hal⟩
                refine relStep_off rfl ?_
                rotate_left
                have e := Option.some.inj ho
                subst e
                have d18 : HandR wg.heap.size (gF 178) w9 ⟨x2, l2, ⟨pj, pb⟩, 0⟩ := hdep ⟨18, .data⟩ (by simp) rfl _ _ rfl rfl
                clear hag hdep ho
                refine ⟨fun _ => ?_, fun a9 pa da hal => by simp [alL] at hal⟩
                refine relStep_off rfl ?_
                rotate_left
                have e := Option.some.inj ho
                subst e
                have d19 : HandR wg.heap.size (gF 159) w9 ⟨x2, l2, ⟨pj, pb⟩, 0⟩ := hdep ⟨19, .data⟩ (by simp) rfl _ _ rfl rfl
                obtain ⟨v6, a6, e6, o6, oa6⟩ := d19
                clear hag hdep ho
                refine ⟨fun _ => ?_, fun a9 pa da hal => by simp [alL] at hal⟩
                refine relStep_off rfl ?_
                rotate_left
                have e := Option.some.inj ho
                subst e
                have d19 : HandR wg.heap.size (gF 159) w9 ⟨x2, l2, ⟨pj, pb⟩, 0⟩ := hdep ⟨19, .data⟩ (by simp) rfl _ _ rfl rfl
                obtain ⟨v6, a6, e6, o6, oa6⟩ := d19
                clear hag hdep ho
                refine ⟨fun _ => ?_, fun a9 pa da hal => by simp [alL] at hal⟩
                refine relStep_off rfl ?_
                rotate_left
                have e := Option.some.inj ho
                subst e
                have d19 : HandR wg.heap.size (gF 159) w9 ⟨x2, l2, ⟨pj, pb⟩, 0⟩ := hdep ⟨19, .data⟩ (by simp) rfl _ _ rfl rfl
                obtain ⟨v6, a6, e6, o6, oa6⟩ := d19
                clear hag hdep ho
                refine ⟨fun _ => ?_, fun a9 pa da hal => by simp [alL] at hal⟩
                refine relStep_off rfl ?_
                rotate_left
                have e := Option.some.inj ho
                subst e
                have d19 : HandR wg.heap.size (gF 159) w9 ⟨x2, l2, ⟨pj, pb⟩, 0⟩ := hdep ⟨19, .data⟩ (by simp) rfl _ _ rfl rfl
                obtain ⟨v6, a6, e6, o6, oa6⟩ := d19
                clear hag hdep ho
                refine ⟨fun _ => ?_, fun a9 pa da hal => by simp [alL] at hal⟩
                refine relStep_off rfl ?_
                rotate_left
                have e := Option.some.inj ho
                subst e
                clear hag hdep ho
                refine ⟨fun _ => ?_, fun a9 pa da hal => by simp [alL] at hal⟩
                refine relStep_off rfl ?_
                rotate_left
                have e := Option.some.inj ho
                subst e
                clear hag hdep ho
                refine ⟨fun _ => ?_, fun a9 pa da hal => by simp [alL] at hal⟩
                refine relStep_off rfl ?_
                rotate_left
                have e := Option.some.inj ho
                subst e
                clear hag hdep ho
                refine ⟨fun _ => ?_, fun a9 pa da hal => by simp [alL] at hal⟩
                refine relStep_off rfl ?_
                rotate_left
                have e := Option.some.inj ho
                subst e
                have d24 : ∃ b, (gF 20) = .pointer (some ⟨b, 0, none⟩) ∧ wg.heap.size ≤ b ∧ ((S9 24) = false → Blk w9 b 36 [.slice none 0 0, .slice none 0 0]) ∧ ((S9 24) = true → ∃ h r, Blk w9 b 36 [h, r] ∧ OwnH w9 wg.heap.size h x2.hosts ∧ OwnP w9 wg.heap.size r x2.replicas) := hdep ⟨24, .data⟩ (by simp) rfl _ _ rfl rfl
                obtain ⟨b24, e24, q24, hz24, _⟩ := d24
                have d20 : OwnW wg.heap.size (gF 179) w9 x2 := hdep ⟨20, .data⟩ (by simp) rfl _ _ rfl rfl
                obtain ⟨h7, r7, e7, oh7, or7⟩ := d20
                have H7 := oh7.one
                have R7 := or7.one
                clear hag hdep ho
                refine ⟨fun h => by simp [alL] at h, fun a9 pa da hal hS9 hpa hda => ?_⟩
                obtain rfl : 24 = a9 := by simpa [alL] using hal
                obtain rfl := Option.some.inj hpa
                obtain rfl := Option.some.inj hda
                have hz := hz24 hS9
                clear hal hpa hda hz24
                refine relStep_off rfl ?_
                rotate_left
                have e := Option.some.inj ho
                subst e
                have d25 : ∃ b, (gF 21) = .pointer (some ⟨b, 0, none⟩) ∧ wg.heap.size ≤ b ∧ ((S9 25) = false → Blk w9 b 39 [.slice none 0 0]) ∧ ((S9 25) = true → ∃ a, Blk w9 b 39 [a] ∧ OwnA w9 wg.heap.size a l2) := hdep ⟨25, .data⟩ (by simp) rfl _ _ rfl rfl
                obtain ⟨b25, e25, q25, hz25, _⟩ := d25
                have d21 : ∃ a, (gF 180) = .agg #[a] ∧ OwnA w9 wg.heap.size a l2 := hdep ⟨21, .data⟩ (by simp) rfl _ _ rfl rfl
                obtain ⟨a8, e8, oa8⟩ := d21
                have A8 := oa8.one
                clear hag hdep ho
                refine ⟨fun h => by simp [alL] at h, fun a9 pa da hal hS9 hpa hda => ?_⟩
                obtain rfl : 25 = a9 := by simpa [alL] using hal
                obtain rfl := Option.some.inj hpa
                obtain rfl := Option.some.inj hda
                have hz := hz25 hS9
                clear hal hpa hda hz25
                refine relStep_off rfl ?_
                rotate_left
                have e := Option.some.inj ho
                subst e
                have d26 : ∃ b, (gF 22) = .pointer (some ⟨b, 0, none⟩) ∧ wg.heap.size ≤ b ∧ ((S9 26) = false → Blk w9 b 50 [intV 0, .int .u8 0]) ∧ ((S9 26) = true → Blk w9 b 50 [intV pj, .int .u8 pb]) := hdep ⟨26, .data⟩ (by simp) rfl _ _ rfl rfl
                obtain ⟨b26, e26, q26, hz26, _⟩ := d26
                have d22 : (gF 181) = replyV ⟨pj, pb⟩ := hdep ⟨22, .data⟩ (by simp) rfl _ _ rfl rfl
                clear hag hdep ho
                refine ⟨fun h => by simp [alL] at h, fun a9 pa da hal hS9 hpa hda => ?_⟩
                obtain rfl : 26 = a9 := by simpa [alL] using hal
                obtain rfl := Option.some.inj hpa
                obtain rfl := Option.some.inj hda
                have hz := hz26 hS9
                clear hal hpa hda hz26
                refine relStep_off rfl ?_
                rotate_left
                · omega
                all_goals (repeat' first
    | ((with_reducible refine at_row ?_); refine row1_k (by rfl) (by decide) fun _ _ _ _ _ _ _ => ?_)
    | with_reducible first | refine alloc_k fun _ _ _ _ _ _ => ?_ | refine row_k fun _ _ _ _ _ _ => ?_ | refine fork (fun _ => ?_) fun _ => ?_ | refine forkp (fun _ => ?_) fun _ => ?_ | refine forke (fun _ => ?_) fun _ _ => ?_ | refine tail_k fun _ _ _ => ?_ | refine ext_k fun _ _ _ => ?_ | refine need_a ?_ | refine st_agg (by kernel_rfl) rfl (by simp only [natV, intV, S3, *]) fun _ _ _ _ => ?_ | refine wpd_q_a ?_
    | simp (maxDischargeDepth := 3) only [↓X, ↓Y, ↓Q, S1, ↓reduceIte, Nat.reduceEqDiff, Nat.reduceAdd, Int.reduceLT, Int.reduceLE, Int.reduceNeg, Int.reduceBEq, Int.reduceBNe, Int.reduceEq, Nat.reduceLeDiff, Nat.reduceMul, Nat.reduceLT, natV, intV, putAt, idxOk, flatP, *, siteC, requestV, requestC]
    | simp (singlePass := true) (maxDischargeDepth := 99) only [*, S2, Nat.reduceLT, siteC, requestV, requestC])
                all_goals first
                  | (refine hand26 ⟨1 + q0, now + L[j].later, ⟨qk, hN, qs, qv⟩⟩ n9 rfl (hS _ FR) (hW _ FR) (XK2 _ FR) z9 (AKf _ FR) hd2 FR FR FR FR hlen2)
                  | (exact d18)
                  | (exact o6)
                  | (exact ⟨_, rfl, oa6⟩)
                  | (rename_i b10 w10 n10 k10 s10 q10; exact ⟨_, rfl, FR, fun _ => k10.2.1 _ k10.2.2.1, fun h => absurd h (by decide)⟩)
                  | (refine stT_agg (w0 := w9) (vs := [h7, r7]) hz rfl (by kernel_rfl) rfl (by simp [H7, R7]) fun w10 hb10 hc => ⟨b24, hc, q24, ⟨b24, (by first | exact e24 | rfl), q24, fun h => absurd h (by decide), fun _ => ⟨h7, r7, hb10, oh7.fra hz hc, or7.fra hz hc⟩⟩, ?_⟩
                     intro iI s v hne hR
                     match iI, hR with
                     | 0, h | 1, h | 2, h | 3, h | 4, h | 5, h | 6, h | 7, h | 8, h | 9, h | 10, h | 11, h | 12, h | 13, h | 14, h | 15, h | 16, h | 17, h | 22, h | 23, h | 27, h | 28, h | 29, h => exact h
                     | 18, h => exact HandR.fr h hz hc (by decide) (by decide) (by first | exact .inl (by decide) | exact .inr hq2)
                     | 19, h => exact HandR.fr h hz hc (by decide) (by decide) (by first | exact .inl (by decide) | exact .inr hq2)
                     | 20, h => exact OwnW.fr h hz hc
                     | 21, h => exact (let ⟨a, e, k⟩ := h; ⟨a, e, Own.fr k hz hc (by first | exact .inl (by decide) | exact .inr hq2)⟩)
                     | 24, _ => exact absurd rfl hne
                     | 25, ⟨b, e, h1, h2, h3⟩ => exact ⟨b, e, h1, fun hs => Blk.fr (h2 hs) hz hc (by first | exact .inl (by decide) | exact .inr (by simp [natV, intV])), fun hs => (fun h => (let ⟨a, k, o1⟩ := h; ⟨a, k.fra hz hc, Own.fr o1 hz hc (by first | exact .inl (by decide) | exact .inr hq2)⟩)) (h3 hs)⟩
                     | 26, ⟨b, e, h1, h2, h3⟩ => exact ⟨b, e, h1, fun hs => Blk.fr (h2 hs) hz hc (by first | exact .inl (by decide) | exact .inr (by simp [natV, intV])), fun hs => (fun h => h.fra hz hc) (h3 hs)⟩)
                  | (refine stT_agg (w0 := w9) (vs := [a8]) hz rfl (by kernel_rfl) rfl (by simp [A8]) fun w10 hb10 hc => ⟨b25, hc, q25, ⟨b25, (by first | exact e25 | rfl), q25, fun h => absurd h (by decide), fun _ => ⟨a8, hb10, oa8.fra hz hc⟩⟩, ?_⟩
                     intro iI s v hne hR
                     match iI, hR with
                     | 0, h | 1, h | 2, h | 3, h | 4, h | 5, h | 6, h | 7, h | 8, h | 9, h | 10, h | 11, h | 12, h | 13, h | 14, h | 15, h | 16, h | 17, h | 22, h | 23, h | 27, h | 28, h | 29, h => exact h
                     | 18, h => exact HandR.fr h hz hc (by decide) (by decide) (by first | exact .inl (by decide) | exact .inr hq2)
                     | 19, h => exact HandR.fr h hz hc (by decide) (by decide) (by first | exact .inl (by decide) | exact .inr hq2)
                     | 20, h => exact OwnW.fr h hz hc
                     | 21, h => exact (let ⟨a, e, k⟩ := h; ⟨a, e, Own.fr k hz hc (by first | exact .inl (by decide) | exact .inr hq2)⟩)
                     | 24, ⟨b, e, h1, h2, h3⟩ => exact ⟨b, e, h1, fun hs => Blk.fr (h2 hs) hz hc (by first | exact .inl (by decide) | exact .inr (by simp [natV, intV])), fun hs => (fun h => (let ⟨a, b, k, o1, o2⟩ := h; ⟨a, b, k.fra hz hc, o1.fra hz hc, o2.fra hz hc⟩)) (h3 hs)⟩
                     | 25, _ => exact absurd rfl hne
                     | 26, ⟨b, e, h1, h2, h3⟩ => exact ⟨b, e, h1, fun hs => Blk.fr (h2 hs) hz hc (by first | exact .inl (by decide) | exact .inr (by simp [natV, intV])), fun hs => (fun h => h.fra hz hc) (h3 hs)⟩)
                  | (refine stT_agg (w0 := w9) (vs := [intV pj, .int .u8 pb]) hz rfl (by kernel_rfl) rfl (by simp [intV, one_int]) fun w10 hb10 hc => ⟨b26, hc, q26, ⟨b26, (by first | exact e26 | rfl), q26, fun h => absurd h (by decide), fun _ => hb10⟩, ?_⟩
                     intro iI s v hne hR
                     match iI, hR with
                     | 0, h | 1, h | 2, h | 3, h | 4, h | 5, h | 6, h | 7, h | 8, h | 9, h | 10, h | 11, h | 12, h | 13, h | 14, h | 15, h | 16, h | 17, h | 22, h | 23, h | 27, h | 28, h | 29, h => exact h
                     | 18, h => exact HandR.fr h hz hc (by decide) (by decide) (by first | exact .inl (by decide) | exact .inr hq2)
                     | 19, h => exact HandR.fr h hz hc (by decide) (by decide) (by first | exact .inl (by decide) | exact .inr hq2)
                     | 20, h => exact OwnW.fr h hz hc
                     | 21, h => exact (let ⟨a, e, k⟩ := h; ⟨a, e, Own.fr k hz hc (by first | exact .inl (by decide) | exact .inr hq2)⟩)
                     | 24, ⟨b, e, h1, h2, h3⟩ => exact ⟨b, e, h1, fun hs => Blk.fr (h2 hs) hz hc (by first | exact .inl (by decide) | exact .inr (by simp [natV, intV])), fun hs => (fun h => (let ⟨a, b, k, o1, o2⟩ := h; ⟨a, b, k.fra hz hc, o1.fra hz hc, o2.fra hz hc⟩)) (h3 hs)⟩
                     | 25, ⟨b, e, h1, h2, h3⟩ => exact ⟨b, e, h1, fun hs => Blk.fr (h2 hs) hz hc (by first | exact .inl (by decide) | exact .inr (by simp [natV, intV])), fun hs => (fun h => (let ⟨a, k, o1⟩ := h; ⟨a, k.fra hz hc, Own.fr o1 hz hc (by first | exact .inl (by decide) | exact .inr hq2)⟩)) (h3 hs)⟩
                     | 26, _ => exact absurd rfl hne)
              · intro g9 w9 hx9 hR hag
                have s9 := hx9.st
                have n9 : Now w9 := trivial
                have r9 := Ext.refl w9
                have z9 := hx9.size
                have d23 : (g9 182) = intV 0 := hR 23 _ _ (by decide) rfl rfl
                have d24 : ∃ b, (g9 20) = .pointer (some ⟨b, 0, none⟩) ∧ wg.heap.size ≤ b ∧ (true = false → Blk w9 b 36 [.slice none 0 0, .slice none 0 0]) ∧ (true = true → ∃ h r, Blk w9 b 36 [h, r] ∧ OwnH w9 wg.heap.size h x2.hosts ∧ OwnP w9 wg.heap.size r x2.replicas) := hR 24 _ _ (by decide) rfl rfl
                obtain ⟨b24, e24, q24, _, f24⟩ := d24
                replace f24 := f24 rfl
                have nw24 := Nw.of q24
                obtain ⟨hZ, rZ, kwZ, ohZ, orZ⟩ := f24
                have KWZ := kwZ.bk
                have HZ := ohZ.o
                have RZ := orZ.o
                have nHZ := And.intro (ohZ.far hzR) (ohZ.far hzA)
                have nRZ := And.intro (orZ.far hzR) (orZ.far hzA)
                clear kwZ ohZ orZ
                have d25 : ∃ b, (g9 21) = .pointer (some ⟨b, 0, none⟩) ∧ wg.heap.size ≤ b ∧ (true = false → Blk w9 b 39 [.slice none 0 0]) ∧ (true = true → ∃ a, Blk w9 b 39 [a] ∧ OwnA w9 wg.heap.size a l2) := hR 25 _ _ (by decide) rfl rfl
                obtain ⟨b25, e25, q25, _, f25⟩ := d25
                replace f25 := f25 rfl
                have nw25 := Nw.of q25
                obtain ⟨aZ, kaZ, oaZ⟩ := f25
                have KAZ := kaZ.bk
                have AZ := oaZ.o
                have nAZ := And.intro (oaZ.far hzR) (oaZ.far hzA)
                clear kaZ oaZ
                have a4 := hag.at 4 (by kernel_rfl)
                have a5 := hag.at 5 (by kernel_rfl)
                have a6 := hag.at 6 (by kernel_rfl)
                have a8 := hag.at 8 (by kernel_rfl)
                have a11 := hag.at 11 (by kernel_rfl)
                have a13 := hag.at 13 (by kernel_rfl)
                have a14 := hag.at 14 (by kernel_rfl)
                simp only [S5, ↓reduceIte, Nat.reduceEqDiff, initF, *] at a4 a5 a6 a8 a11 a13 a14
                clear hag hR
                simp only [List.drop_succ_cons, List.drop_zero]
                rename_i q1 q2
                clear q1 q2
                (repeat' first
    | ((with_reducible refine wpd_at 21 ?_); refine wpd_hold ?_)
    | ((with_reducible refine at_row ?_); refine row1_k (by rfl) (by decide) fun _ _ _ _ _ _ _ => ?_)
    | with_reducible first | refine alloc_k fun _ _ _ _ _ _ => ?_ | refine row_k fun _ _ _ _ _ _ => ?_ | refine fork (fun _ => ?_) fun _ => ?_ | refine forkp (fun _ => ?_) fun _ => ?_ | refine forke (fun _ => ?_) fun _ _ => ?_ | refine tail_k fun _ _ _ => ?_ | refine ext_k fun _ _ _ => ?_ | refine need_a ?_ | refine st_agg (by kernel_rfl) rfl (by simp only [natV, intV, S3, *]) fun _ _ _ _ => ?_ | refine wpd_q_a ?_
    | simp (maxDischargeDepth := 3) only [↓X, ↓Y, ↓Q, S1, ↓reduceIte, Nat.reduceEqDiff, Nat.reduceAdd, Int.reduceLT, Int.reduceLE, Int.reduceNeg, Int.reduceBEq, Int.reduceBNe, Int.reduceEq, Nat.reduceLeDiff, Nat.reduceMul, Nat.reduceLT, natV, intV, putAt, idxOk, flatP, *]
    | simp (singlePass := true) (maxDischargeDepth := 99) only [*, S2, Nat.reduceLT])
                rename_i q5
                obtain ⟨wk, hwk⟩ : ∃ x, x = w9 := ⟨_, rfl⟩
                subst hwk
                have kRk := (kRf.2.1 wk FR).bk
                have HZ1 := HZ.2.2.2.1
                have RZ1 := RZ.2.2.2.1
                have hRB : ∀ b ∈ [bR], b < wk.heap.size := by simp only [List.mem_cons, List.not_mem_nil, or_false, forall_eq_or_imp, forall_eq]; exact FR
                unfold wpdH
                refine wpd_relL 12 [bR] [(10, bR)] rfl (fun iI v w9 => match iI with
                  | 0 => v = .pointer (some ⟨bR, 0, none⟩)
                  | 1 => v = .pointer (some ⟨bR, 0, none⟩)
                  | 2 => v = .pointer (some ⟨bR, 0, none⟩)
                  | 3 => v = .pointer (some ⟨bR, 10, none⟩)
                  | 4 => v = .slice (some ⟨bA, 0, none⟩) si.hosts.length si.hosts.length
                  | 5 => v = .int .i64 hN
                  | 6 => v = .agg #[hZ, rZ]
                  | 7 => v = .agg #[aZ]
                  | 8 => v = .pointer (some ⟨bR, 0, none⟩)
                  | 9 => v = .pointer (some ⟨bR, 8, none⟩)
                  | 10 => Blk w9 bR 67 (runC u si wv hZ rZ (.slice (some ⟨bA, 0, none⟩) si.hosts.length si.hosts.length) (now + L[j].later))
                  | 11 => v = .pointer (some ⟨bA, hN, none⟩)
                  | _ => False) (by kernel_rfl) (by kernel_rfl) (by kernel_rfl) hRB (by simp only [List.nodup_cons, List.mem_cons, List.not_mem_nil, or_false, not_or, List.nodup_nil, not_false_eq_true, and_true] <;> exact FR) ?_ ?_ ?_
                · intro iI v w1 w2 hR hx9
                  match iI, hR with
                  | 0, h => exact h
                  | 1, h => exact h
                  | 2, h => exact h
                  | 3, h => exact h
                  | 4, h => exact h
                  | 5, h => exact h
                  | 6, h => exact h
                  | 7, h => exact h
                  | 8, h => exact h
                  | 9, h => exact h
                  | 10, h => exact h.tb hx9 (fun hX => hX.2 rfl)
                  | 11, h => exact h
                · intro iI oO hi ho gF w9 hx9 hdep hag hun
                  have s9 := hx9.sb
                  simp only [Sb, List.mem_cons, List.not_mem_nil, or_false, forall_eq_or_imp, forall_eq] at s9
                  have n9 : Now w9 := trivial
                  have r9 := Ext.refl w9
                  have z9 := hx9.size
                  rcases iI with _|_|_|_|_|_|_|_|_|_|_|_|iI
                  have e := Option.some.inj ho
                  subst e
                  have a11 := hag.at 11 (by kernel_rfl)
                  simp only [S5, ↓reduceIte, Nat.reduceEqDiff, initF, *] at a11
                  have un10 : Kp bR wk w9 := ⟨hRB _ (by simp), hun 10 _ (by decide) rfl (by kernel_rfl)⟩
                  clear hag hdep ho hun
                  refine ⟨fun _ => ?_, fun b hb => by simp [bkL] at hb⟩
                  refine relStep_off rfl ?_
                  rotate_left
                  have e := Option.some.inj ho
                  subst e
                  have a11 := hag.at 11 (by kernel_rfl)
                  simp only [S5, ↓reduceIte, Nat.reduceEqDiff, initF, *] at a11
                  clear hag hdep ho hun
                  refine ⟨fun _ => ?_, fun b hb => by simp [bkL] at hb⟩
                  refine relStep_off rfl ?_
                  rotate_left
                  have e := Option.some.inj ho
                  subst e
                  have d1 : (gF 186) = .pointer (some ⟨bR, 0, none⟩) := hdep ⟨1, .data⟩ (by simp) rfl _ _ rfl rfl
                  clear hag hdep ho hun
                  refine ⟨fun _ => ?_, fun b hb => by simp [bkL] at hb⟩
                  refine relStep_off rfl ?_
                  rotate_left
                  have e := Option.some.inj ho
                  subst e
                  have d2 : (gF 187) = .pointer (some ⟨bR, 0, none⟩) := hdep ⟨2, .data⟩ (by simp) rfl _ _ rfl rfl
                  clear hag hdep ho hun
                  refine ⟨fun _ => ?_, fun b hb => by simp [bkL] at hb⟩
                  refine relStep_off rfl ?_
                  rotate_left
                  have e := Option.some.inj ho
                  subst e
                  have d3 : (gF 188) = .pointer (some ⟨bR, 10, none⟩) := hdep ⟨3, .data⟩ (by simp) rfl _ _ rfl rfl
                  have un10 : Kp bR wk w9 := ⟨hRB _ (by simp), hun 10 _ (by decide) rfl (by kernel_rfl)⟩
                  clear hag hdep ho hun
                  refine ⟨fun _ => ?_, fun b hb => by simp [bkL] at hb⟩
                  refine relStep_off rfl ?_
                  rotate_left
                  have e := Option.some.inj ho
                  subst e
                  have a13 := hag.at 13 (by kernel_rfl)
                  simp only [S5, ↓reduceIte, Nat.reduceEqDiff, initF, *] at a13
                  clear hag hdep ho hun
                  refine ⟨fun _ => ?_, fun b hb => by simp [bkL] at hb⟩
                  refine relStep_off rfl ?_
                  rotate_left
                  have e := Option.some.inj ho
                  subst e
                  have a20 := hag.at 20 (by kernel_rfl)
                  simp only [S5, ↓reduceIte, Nat.reduceEqDiff, initF, *] at a20
                  have un10 : Kp bR wk w9 := ⟨hRB _ (by simp), hun 10 _ (by decide) rfl (by kernel_rfl)⟩
                  clear hag hdep ho hun
                  refine ⟨fun _ => ?_, fun b hb => by simp [bkL] at hb⟩
                  refine relStep_off rfl ?_
                  rotate_left
                  have e := Option.some.inj ho
                  subst e
                  have a21 := hag.at 21 (by kernel_rfl)
                  simp only [S5, ↓reduceIte, Nat.reduceEqDiff, initF, *] at a21
                  clear hag hdep ho hun
                  refine ⟨fun _ => ?_, fun b hb => by simp [bkL] at hb⟩
                  refine relStep_off rfl ?_
                  rotate_left
                  have e := Option.some.inj ho
                  subst e
                  have d0 : (gF 185) = .pointer (some ⟨bR, 0, none⟩) := hdep ⟨0, .data⟩ (by simp) rfl _ _ rfl rfl
                  clear hag hdep ho hun
                  refine ⟨fun _ => ?_, fun b hb => by simp [bkL] at hb⟩
                  refine relStep_off rfl ?_
                  rotate_left
                  have e := Option.some.inj ho
                  subst e
                  have d8 : (gF 193) = .pointer (some ⟨bR, 0, none⟩) := hdep ⟨8, .data⟩ (by simp) rfl _ _ rfl rfl
                  have un10 : Kp bR wk w9 := ⟨hRB _ (by simp), hun 10 _ (by decide) rfl (by kernel_rfl)⟩
                  clear hag hdep ho hun
                  refine ⟨fun _ => ?_, fun b hb => by simp [bkL] at hb⟩
                  refine relStep_off rfl ?_
                  rotate_left
                  have e := Option.some.inj ho
                  subst e
                  have d6 : (gF 191) = .agg #[hZ, rZ] := hdep ⟨6, .data⟩ (by simp) rfl _ _ rfl rfl
                  have d9 : (gF 194) = .pointer (some ⟨bR, 8, none⟩) := hdep ⟨9, .data⟩ (by simp) rfl _ _ rfl rfl
                  clear hag hdep ho hun
                  refine ⟨fun h => by simp [bkL] at h, fun b hb hU => ?_⟩
                  obtain rfl : bR = b := by simpa [bkL] using hb
                  refine relStep_off rfl ?_
                  rotate_left
                  have e := Option.some.inj ho
                  subst e
                  have d4 : (gF 189) = .slice (some ⟨bA, 0, none⟩) si.hosts.length si.hosts.length := hdep ⟨4, .data⟩ (by simp) rfl _ _ rfl rfl
                  have d5 : (gF 190) = .int .i64 hN := hdep ⟨5, .data⟩ (by simp) rfl _ _ rfl rfl
                  clear hag hdep ho hun
                  refine ⟨fun _ => ?_, fun b hb => by simp [bkL] at hb⟩
                  refine relStep_off rfl ?_
                  rotate_left
                  · omega
                  all_goals (repeat' first
    | ((with_reducible refine at_row ?_); refine row1_k (by rfl) (by decide) fun _ _ _ _ _ _ _ => ?_)
    | with_reducible first | refine alloc_k fun _ _ _ _ _ _ => ?_ | refine row_k fun _ _ _ _ _ _ => ?_ | refine fork (fun _ => ?_) fun _ => ?_ | refine forkp (fun _ => ?_) fun _ => ?_ | refine forke (fun _ => ?_) fun _ _ => ?_ | refine tail_k fun _ _ _ => ?_ | refine ext_k fun _ _ _ => ?_ | refine need_a ?_ | refine st_agg (by kernel_rfl) rfl (by simp only [natV, intV, S3, *]) fun _ _ _ _ => ?_ | refine wpd_q_a ?_
    | simp (maxDischargeDepth := 3) only [↓X, ↓Y, ↓Q, S1, ↓reduceIte, Nat.reduceEqDiff, Nat.reduceAdd, Int.reduceLT, Int.reduceLE, Int.reduceNeg, Int.reduceBEq, Int.reduceBNe, Int.reduceEq, Nat.reduceLeDiff, Nat.reduceMul, Nat.reduceLT, natV, intV, putAt, idxOk, flatP, *]
    | simp (singlePass := true) (maxDischargeDepth := 99) only [*, S2, Nat.reduceLT])
                  all_goals first
                    | (exact storeAggAt_intro (vs := [hZ, rZ]) (off := 8) (by kernel_rfl) (show Blk w9 bR _ _ from hU.trans (kRk.2.1 wk kRk.2.2.1)) (by simp) (by simp [HZ1, RZ1]) fun w' hb' hc' => ⟨hc', hb'⟩)
                · intro g9 w9 hx9 hR hS9 hag
                  have s9 := hx9.sb
                  simp only [Sb, List.mem_cons, List.not_mem_nil, or_false, forall_eq_or_imp, forall_eq] at s9
                  have n9 : Now w9 := trivial
                  have r9 := Ext.refl w9
                  have z9 := hx9.size
                  have d7 : (g9 192) = .agg #[aZ] := hR 7 _ _ (by decide) rfl rfl
                  obtain ⟨vs10, d10⟩ := hS9 10 _ (by decide) rfl
                  replace d10 : Blk w9 bR 67 (runC u si wv hZ rZ (.slice (some ⟨bA, 0, none⟩) si.hosts.length si.hosts.length) (now + L[j].later)) := d10
                  have d11 : (g9 195) = .pointer (some ⟨bA, hN, none⟩) := hR 11 _ _ (by decide) rfl rfl
                  have a4 := hag.at 4 (by kernel_rfl)
                  have a5 := hag.at 5 (by kernel_rfl)
                  have a6 := hag.at 6 (by kernel_rfl)
                  have a8 := hag.at 8 (by kernel_rfl)
                  have a11 := hag.at 11 (by kernel_rfl)
                  have a13 := hag.at 13 (by kernel_rfl)
                  have a14 := hag.at 14 (by kernel_rfl)
                  simp only [S5, ↓reduceIte, Nat.reduceEqDiff, initF, *] at a4 a5 a6 a8 a11 a13 a14
                  clear hag hR hS9
                  simp only [List.drop_succ_cons, List.drop_zero]
                  (repeat' first
    | ((with_reducible refine at_row ?_); refine row1_k (by rfl) (by decide) fun _ _ _ _ _ _ _ => ?_)
    | with_reducible first | refine alloc_k fun _ _ _ _ _ _ => ?_ | refine row_k fun _ _ _ _ _ _ => ?_ | refine fork (fun _ => ?_) fun _ => ?_ | refine forkp (fun _ => ?_) fun _ => ?_ | refine forke (fun _ => ?_) fun _ _ => ?_ | refine tail_k fun _ _ _ => ?_ | refine ext_k fun _ _ _ => ?_ | refine need_a ?_ | refine st_agg (by kernel_rfl) rfl (by simp only [natV, intV, S3, *]) fun _ _ _ _ => ?_ | refine wpd_q_a ?_
    | simp (maxDischargeDepth := 3) only [↓X, ↓Y, ↓Q, S1, ↓reduceIte, Nat.reduceEqDiff, Nat.reduceAdd, Int.reduceLT, Int.reduceLE, Int.reduceNeg, Int.reduceBEq, Int.reduceBNe, Int.reduceEq, Nat.reduceLeDiff, Nat.reduceMul, Nat.reduceLT, natV, intV, putAt, idxOk, flatP, *]
    | simp (singlePass := true) (maxDischargeDepth := 99) only [*, S2, Nat.reduceLT])
                  refine st_aggAt (vs := [aZ]) (off := hN) (by kernel_rfl) (by simp only [List.length_singleton, List.length_set]; omega) (by simp [AZ.2.2.2.1]) fun we ne ke se => ?_
                  have ecs2 : putAt (cs.set hN aA) hN [aZ] = cs.set hN aZ := by show (cs.set hN aA).set hN aZ = _; rw [List.set_set]
                  rw [ecs2] at ke
                  have kR10 := d10.bk
                  have fR := kR10.2.1 we FR
                  have fA := ke.2.1 we ke.2.2.1
                  have oH := HZ.1 we FR
                  have oR := RZ.1 we FR
                  have oA := AZ.1 we FR
                  have FF : Hid (OverI bR bA si.hosts.length hN u si (sl.map (·.x)) wv ls we (j + 1) ∧ TBn (fun c => c = bR ∨ c = bA) wL we) := by
                    refine fin.out we hZ rZ aZ x2 l2 fR fA ⟨oH.slN (f := stateC), oR.slN (f := replC)⟩ (fun c hc => by rcases hc with rfl | rfl <;> exact ⟨oH.nb (by assumption), oR.nb (by assumption)⟩) (oA.slN (f := replyC)) (fun c hc => by rcases hc with rfl | rfl <;> exact oA.nb (by assumption)) hval2 hnd2 (by omega) (T11.out.trans ?_)
                    have h0R : 0 ≤ bR := Nat.zero_le _
                    have h0A : 0 ≤ bA := Nat.zero_le _
                    have h0Q : 0 ≤ bQ := Nat.zero_le _
                    have b00 : Bl 0 wz wz := Bl.refl (Nat.zero_le _)
                    have b01 : Bl 0 wz we := FR
                    exact tbn_of b01 (fun c h1 h2 => by
                      have h3 : Kp c wz wz := ⟨h1, rfl⟩
                      have h4 : ¬ c = bA := fun e => h2 (.inr e)
                      have h5 : ¬ c = bR := fun e => h2 (.inl e)
                      have h6 : ¬ c = bQ := by omega
                      exact FR) FR
                  clear fR fA oH oR oA
                  (repeat' first
    | ((with_reducible refine at_row ?_); refine row1_k (by rfl) (by decide) fun _ _ _ _ _ _ _ => ?_)
    | with_reducible first | refine alloc_k fun _ _ _ _ _ _ => ?_ | refine row_k fun _ _ _ _ _ _ => ?_ | refine fork (fun _ => ?_) fun _ => ?_ | refine forkp (fun _ => ?_) fun _ => ?_ | refine forke (fun _ => ?_) fun _ _ => ?_ | refine tail_k fun _ _ _ => ?_ | refine ext_k fun _ _ _ => ?_ | refine need_a ?_ | refine st_agg (by kernel_rfl) rfl (by simp only [natV, intV, S3, *]) fun _ _ _ _ => ?_ | refine wpd_q_a ?_
    | simp (maxDischargeDepth := 3) only [↓X, ↓Y, ↓Q, S1, ↓reduceIte, Nat.reduceEqDiff, Nat.reduceAdd, Int.reduceLT, Int.reduceLE, Int.reduceNeg, Int.reduceBEq, Int.reduceBNe, Int.reduceEq, Nat.reduceLeDiff, Nat.reduceMul, Nat.reduceLT, natV, intV, putAt, idxOk, flatP, *]
    | simp (singlePass := true) (maxDischargeDepth := 99) only [*, S2, Nat.reduceLT])
                  refine next_g hj hjt ?_
                  (repeat' first
    | ((with_reducible refine at_row ?_); refine row1_k (by rfl) (by decide) fun _ _ _ _ _ _ _ => ?_)
    | with_reducible first | refine alloc_k fun _ _ _ _ _ _ => ?_ | refine row_k fun _ _ _ _ _ _ => ?_ | refine fork (fun _ => ?_) fun _ => ?_ | refine forkp (fun _ => ?_) fun _ => ?_ | refine forke (fun _ => ?_) fun _ _ => ?_ | refine tail_k fun _ _ _ => ?_ | refine ext_k fun _ _ _ => ?_ | refine need_a ?_ | refine st_agg (by kernel_rfl) rfl (by simp only [natV, intV, S3, *]) fun _ _ _ _ => ?_ | refine wpd_q_a ?_
    | simp (maxDischargeDepth := 3) only [↓X, ↓Y, ↓Q, S1, ↓reduceIte, Nat.reduceEqDiff, Nat.reduceAdd, Int.reduceLT, Int.reduceLE, Int.reduceNeg, Int.reduceBEq, Int.reduceBNe, Int.reduceEq, Nat.reduceLeDiff, Nat.reduceMul, Nat.reduceLT, natV, intV, putAt, idxOk, flatP, *]
    | simp (singlePass := true) (maxDischargeDepth := 99) only [*, S2, Nat.reduceLT])
                  all_goals exact FF
  · rintro gj wj nj ⟨hij, hfj, hJj⟩
    simp (maxDischargeDepth := 3) only [U, ↓reduceIte, Nat.reduceEqDiff, *] at hfj
    obtain ⟨_, htb⟩ := hJj.out
    have hExj : Ext w wj := hExL.trans' ⟨htb.os, htb.tape, htb.output, htb.size, fun c hc => htb.block c (Nat.lt_of_lt_of_le hc hExL.size) (by simp only [not_or]; omega)⟩
    have hcase : Hid ((¬ min L.length 30 < L.length) ∨ (min L.length 30 < L.length ∧ ¬ ((min L.length 30 : Nat) : Int) < 30)) := by
      show _ ∨ _
      omega
    generalize min L.length 30 = N at *
    rcases hcase.out with h | ⟨h, h'⟩
    · (repeat' first
    | ((with_reducible refine at_row ?_); refine row1_k (by rfl) (by decide) fun _ _ _ _ _ _ _ => ?_)
    | with_reducible first | refine alloc_k fun _ _ _ _ _ _ => ?_ | refine row_k fun _ _ _ _ _ _ => ?_ | refine fork (fun _ => ?_) fun _ => ?_ | refine forkp (fun _ => ?_) fun _ => ?_ | refine forke (fun _ => ?_) fun _ _ => ?_ | refine tail_k fun _ _ _ => ?_ | refine ext_k fun _ _ _ => ?_ | refine need_a ?_ | refine st_agg (by kernel_rfl) rfl (by simp only [natV, intV, S3, *]) fun _ _ _ _ => ?_ | refine wpd_q_a ?_
    | ((with_reducible refine at_f 9 ?_); refine ret_k (law26lives) fun _ _ _ => ?_)
    | simp (maxDischargeDepth := 3) only [↓X, ↓Y, ↓Q, S1, ↓reduceIte, Nat.reduceEqDiff, Nat.reduceAdd, Int.reduceLT, Int.reduceLE, Int.reduceNeg, Int.reduceBEq, Int.reduceBNe, Int.reduceEq, Nat.reduceLeDiff, Nat.reduceMul, Nat.reduceLT, natV, intV, putAt, idxOk, flatP, *]
    | simp (singlePass := true) (maxDischargeDepth := 99) only [*, S2, Nat.reduceLT])
    · (repeat' first
    | ((with_reducible refine at_row ?_); refine row1_k (by rfl) (by decide) fun _ _ _ _ _ _ _ => ?_)
    | with_reducible first | refine alloc_k fun _ _ _ _ _ _ => ?_ | refine row_k fun _ _ _ _ _ _ => ?_ | refine fork (fun _ => ?_) fun _ => ?_ | refine forkp (fun _ => ?_) fun _ => ?_ | refine forke (fun _ => ?_) fun _ _ => ?_ | refine tail_k fun _ _ _ => ?_ | refine ext_k fun _ _ _ => ?_ | refine need_a ?_ | refine st_agg (by kernel_rfl) rfl (by simp only [natV, intV, S3, *]) fun _ _ _ _ => ?_ | refine wpd_q_a ?_
    | ((with_reducible refine at_f 9 ?_); refine ret_k (law26lives) fun _ _ _ => ?_)
    | simp (maxDischargeDepth := 3) only [↓X, ↓Y, ↓Q, S1, ↓reduceIte, Nat.reduceEqDiff, Nat.reduceAdd, Int.reduceLT, Int.reduceLE, Int.reduceNeg, Int.reduceBEq, Int.reduceBNe, Int.reduceEq, Nat.reduceLeDiff, Nat.reduceMul, Nat.reduceLT, natV, intV, putAt, idxOk, flatP, *]
    | simp (singlePass := true) (maxDischargeDepth := 99) only [*, S2, Nat.reduceLT])
end
end Go.Proofs.YtblegjdogmcgbaaGreat
