
/- The statement AgentOnce. -/
import Derived.Test.YtblegjdogmcgbaaGreatOver26
import Derived.Test.YtblegjdogmcgbaaGreatPure26b
import Derived.Test.YtblegjdogmcgbaaGreatJoin
import Derived.Test.YtblegjdogmcgbaaGreatAgent4
import Derived.Test.YtblegjdogmcgbaaGreatRef19b
import Derived.Test.YtblegjdogmcgbaaGreatOpen26b
namespace Go.Proofs.YtblegjdogmcgbaaGreat
set_option linter.unusedSimpArgs false
set_option linter.unusedVariables false
open Go Go.RowKit
set_option maxRecDepth 100000
set_option linter.unusedSectionVars false
set_option maxHeartbeats 4000000
section
variable {w : World} {B : Nat} {u : SiteVs} {si : SiteD} {wv hv rv lv : Value} {sl : List SrvV} {x : WorldD} {L : List ArrivalD}
def aV (a : Int) : Value := .int .u8 a
/-- What a round of AgentOnce finds: the run, the agents' row, the answers' row, the world, the lists of all hosts. -/
def OnceI (bR bA bN n : Nat) (u : SiteVs) (si : SiteD) (wl : List ServiceD) (wv : Value) (w' : World) (j : Nat) : Prop :=
 ∃ (now : Int) (hv rv : Value) (x : WorldD) (ags : List Value) (Ls : Nat → List ReplyD) (al : List Int),
  Blk w' bR 67 (runC u si wv hv rv (.slice (some ⟨bA, 0, none⟩) n n) now) ∧ Blk w' bA 39 ags ∧ ags.length = n ∧ Blk w' bN 48 (al.map aV) ∧ al.length = 13 * n ∧
  WorldR w' w'.heap.size hv rv x ∧ (∀ c, c = bR ∨ c = bA ∨ c = bN → NB hv c ∧ NB rv c) ∧
  (∀ h, h < n → ∃ av, ags[h]? = some av ∧ Sl w' w'.heap.size (some 2) 2 av ((Ls h).map replyV) ∧ (∀ c, c = bR ∨ c = bA ∨ c = bN → NB av c) ∧ (Ls h).length ≤ j ∧ (∀ p ∈ Ls h, 1 ≤ p.id) ∧ Told (Ls h) (fun id => al.getD (13 * h + id.toNat) 0)) ∧
  validB si wl x = true ∧ 0 ≤ now ∧ now ≤ 255 * j
theorem OnceI.more {bR bA bN n : Nat} {wl : List ServiceD} {w w' : World} {j : Nat} (h : OnceI bR bA bN n u si wl wv w j) (hx : Ext w w') : OnceI bR bA bN n u si wl wv w' (j + 1) := by
 obtain ⟨now, hv, rv, x, ags, Ls, al, h1, h2, h3, h4, h5, h6, h7, h8, h9, h10, h11⟩ := h
 refine ⟨now, hv, rv, x, ags, Ls, al, h1.ext hx, h2.ext hx, h3, h4.ext hx, h5, ⟨(h6.1.ext hx (Nat.le_refl _)).more hx.size, (h6.2.ext hx (Nat.le_refl _)).more hx.size⟩, h7, fun h hh => ?_, h9, h10, by omega⟩
 obtain ⟨av, g1, g2, g3, g4, g5⟩ := h8 h hh
 exact ⟨av, g1, (g2.ext hx (Nat.le_refl _)).more hx.size, g3, by omega, g5⟩
theorem told_set {l : List ReplyD} {al : List Int} {h h' qI : Nat} {v : Int} (hn : ¬ h = h') (hq : 1 ≤ qI ∧ qI ≤ 12) (ht : Told l (fun id => al.getD (13 * h + id.toNat) 0)) : Told l (fun id => (al.set (13 * h' + qI) v).getD (13 * h + id.toNat) 0) := by
 intro id h1 h2
 have e : (al.set (13 * h' + qI) v).getD (13 * h + id.toNat) 0 = al.getD (13 * h + id.toNat) 0 := by
  simp only [List.getD_eq_getElem?_getD]
  rw [List.getElem?_set_ne (by omega)]
 simp only [e]
 exact ht id h1 h2
theorem told_upd {l : List ReplyD} {al : List Int} {h qI : Nat} {v : Int} (hlt : 13 * h + qI < al.length) (hq : 1 ≤ qI ∧ qI ≤ 12) (ht : Told l (fun i => if i = (qI : Int) then v else al.getD (13 * h + i.toNat) 0)) : Told l (fun id => (al.set (13 * h + qI) v).getD (13 * h + id.toNat) 0) := by
 intro id h1 h2
 have := ht id h1 h2
 have e : (al.set (13 * h + qI) v).getD (13 * h + id.toNat) 0 = if id = (qI : Int) then v else al.getD (13 * h + id.toNat) 0 := by
  simp only [List.getD_eq_getElem?_getD]
  by_cases hid : id = (qI : Int)
  ·subst hid
   rw [if_pos rfl, Int.toNat_natCast, List.getElem?_set_self hlt]
   rfl
  ·rw [if_neg hid, List.getElem?_set_ne (by omega)]
 simp only [e]
 exact this
theorem once_rng (n m : Int) (hm : 0 < m ∧ m ≤ 1000) : 0 ≤ IntKind.i64.wrap ((IntKind.u64.wrap n).tmod m) ∧ IntKind.i64.wrap ((IntKind.u64.wrap n).tmod m) < m := by
 have h0 : 0 ≤ IntKind.u64.wrap n := by rw [IntKind.wrap_u64]; omega
 have h1 := Int.tmod_nonneg m h0
 have h2 := Int.tmod_lt_of_pos (IntKind.u64.wrap n) hm.1
 rw [wrap_i64_id] <;> omega
theorem fail26 {w w0 : World} {B1 B2 B3 : Nat} {fe : Int} {fw : WorldD} {host : Int} (hS : SiteR w B1 u si) (hW : WishR w B2 wv sl) (hX : WorldR w B3 hv rv x) (hz : w0.heap.size ≤ w.heap.size) (h1 : B1 ≤ w.heap.size) (h2 : B2 ≤ w.heap.size) (h3 : B3 ≤ w.heap.size) (hfe : failE si (sl.map (·.x)) x host = fe) (hfw : failW si (sl.map (·.x)) x host = fw) :
  CallsV Tryz.prog 20 #[.agg (siteC u si).toArray, .agg #[wv], .agg #[hv, rv], intV host] w fun v w' => Ext w w' ∧ ∃ v0, v = .tuple #[v0, intV fe] ∧ OwnW w0.heap.size v0 w' fw := by
 subst hfe hfw
 refine CallsV.mono (agentFail (B := w.heap.size) (Nat.le_refl _) (hS.up h1) (hW.up h2) (hX.up h3)) fun v w' hh => ⟨hh.1, ?_⟩
 obtain ⟨v0, e, h', r', e', o1, o2⟩ := hh.2
 exact ⟨v0, e, h', r', e', o1.more hz, o2.more hz⟩
theorem apply26 {w w0 : World} {B1 B2 B3 : Nat} {ae : Int} {aw : WorldD} {st : StepD} (hS : SiteR w B1 u si) (hW : WishR w B2 wv sl) (hX : WorldR w B3 hv rv x) (hz : w0.heap.size ≤ w.heap.size) (h1 : B1 ≤ w.heap.size) (h2 : B2 ≤ w.heap.size) (h3 : B3 ≤ w.heap.size) (hfe : applyE si (sl.map (·.x)) x st = ae) (hfw : applyW si (sl.map (·.x)) x st = aw) :
  CallsV Tryz.prog 23 #[.agg (siteC u si).toArray, .agg #[wv], .agg #[hv, rv], stepV st] w fun v w' => Ext w w' ∧ ∃ v0, v = .tuple #[v0, intV ae] ∧ OwnW w0.heap.size v0 w' aw := by
 subst hfe hfw
 refine CallsV.mono (ref19Apply (B := w.heap.size) (st := st) (Nat.le_refl _) (hS.up h1) (hW.up h2) (hX.up h3)) fun v w' hh => ⟨hh.1, ?_⟩
 obtain ⟨v0, e, h', r', e', o1, o2⟩ := hh.2
 exact ⟨v0, e, h', r', e', o1.more hz, o2.more hz⟩
theorem tbn_via {X X' : Nat → Prop} {wL wa we : World} (T : TBn X wL wa) (b0 : Bl 0 wa we) (key : ∀ c, c < wa.heap.size → ¬ X' c → Kp c wa we) (hX : ∀ c, c < wL.heap.size → ¬ X c → ¬ X' c) (hz : wa.heap.size ≤ we.heap.size) : TBn X wL we :=
 ⟨b0.2.os.trans T.os, b0.2.tape.trans T.tape, b0.2.output.trans T.output, Nat.le_trans T.size hz, fun b hb hn => (key b (Nat.lt_of_lt_of_le hb T.size) (hX b hb hn)).2.trans (T.block b hb hn)⟩
theorem once_ags {X : Nat → Prop} {wa we : World} {n j : Nat} {ags : List Value} {Ls : Nat → List ReplyD} {Q : Nat → Prop} (h : ∀ h, h < n → ∃ av, ags[h]? = some av ∧ Sl wa wa.heap.size (some 2) 2 av ((Ls h).map replyV) ∧ (∀ c, X c → NB av c) ∧ (Ls h).length ≤ j ∧ Q h) (key : ∀ c, c < wa.heap.size → ¬ X c → Kp c wa we) (hz : wa.heap.size ≤ we.heap.size) :
  ∀ h, h < n → ∃ av, ags[h]? = some av ∧ Sl we we.heap.size (some 2) 2 av ((Ls h).map replyV) ∧ (∀ c, X c → NB av c) ∧ (Ls h).length ≤ j + 1 ∧ Q h := fun k hk => by
 obtain ⟨av, g1, g2, g3, g4, g5⟩ := h k hk
 exact ⟨av, g1, g2.via key g3 hz, g3, by omega, g5⟩
theorem once_nb {bR bA bN bQ : Nat} {n : Nat} {we : World} {ags : List Value} {Ls : Nat → List ReplyD} {j : Nat} {Q : Nat → Prop} (h : ∀ h, h < n → ∃ av, ags[h]? = some av ∧ Sl we we.heap.size (some 2) 2 av ((Ls h).map replyV) ∧ (∀ c, c = bR ∨ c = bA ∨ c = bN ∨ c = bQ → NB av c) ∧ (Ls h).length ≤ j + 1 ∧ Q h) :
  ∀ h, h < n → ∃ av, ags[h]? = some av ∧ Sl we we.heap.size (some 2) 2 av ((Ls h).map replyV) ∧ (∀ c, c = bR ∨ c = bA ∨ c = bN → NB av c) ∧ (Ls h).length ≤ j + 1 ∧ Q h := fun k hk => by
 obtain ⟨av, g1, g2, g3, g4⟩ := h k hk
 exact ⟨av, g1, g2, fun c hc => g3 c (by rcases hc with h | h | h <;> simp [h]), g4⟩
theorem lawAgentOnce (hB : B ≤ w.heap.size) (hs : SiteR w B u si) (hl : WishR w B wv sl) (hx0 : WorldR w B hv rv x) (hL : Sl w B (some 8) 8 lv (L.map arrivalV)) (hla : ∀ a ∈ L, 0 ≤ a.later ∧ a.later ≤ 255) : Ret Tryz.prog 6 #[.agg (siteC u si).toArray, .agg #[wv], .agg #[hv, rv], lv] w (.bool true) := by
 have hn : Now w := trivial
 have hx : Ext w w := Ext.refl w
 have hs' := hs.sk hB
 have hl' := hl.sk hB
 have hx' := hx0.sk hB
 have hL' := hL.k hB
 have hS := hs'.2.2.2.2.2.2
 have hW := hl'.2.2
 have hX := hx'.2.2.2.2
 (refine callsV_of Tryz.func6 rfl KR KR ?_; rw [Tryz.results6])
 (repeat' first
  | ((with_reducible refine at_row ?_); refine row1_a fun _ _ _ _ _ _ _ => ?_)
  | with_reducible first | (first | apply alloc_k | apply row_k); intro _ _ _ _ _ _ | (first | apply fork | apply forkp) <;> intro _ | refine forke (fun _ => ?_) fun _ _ => ?_ | refine tail_k fun _ _ _ => ?_ | refine ext_k fun _ _ _ => ?_ | refine need_a ?_ | refine st_agg KR rfl ON fun _ _ _ _ => ?_ | refine wpd_q_a ?_
  | simp (maxDischargeDepth := 3) only [↓X, ↓Y, ↓Q, S1, ↓reduceIte, Nat.reduceEqDiff, Nat.reduceAdd, Int.reduceLT, Int.reduceLE, Int.reduceNeg, Int.reduceBEq, Int.reduceBNe, Int.reduceEq, Nat.reduceLeDiff, Nat.reduceMul, Nat.reduceLT, *, siteC]
  | simp (singlePass := true) (maxDischargeDepth := 99) only [*, S2, Nat.reduceLT, siteC])
 rename_i b4 v4 u4 k4 t4 q4 b5 v5 u5 k5 t5 q5 b6 v6 u6 k6 t6 q6
 refine call_k (law26begin (B := B) FR (hS _ FR) (hW _ FR) (hX _ FR)) ?_
 rintro _ w1 n1 s1 hb1
 rcases hb1 with rfl | ⟨hfew, hval, bR, bA, rfl, hbR, hbA, r1, r2, r3⟩
 ·(repeat' first
  | ((with_reducible refine at_row ?_); refine row1_a fun _ _ _ _ _ _ _ => ?_)
  | with_reducible first | (first | apply alloc_k | apply row_k); intro _ _ _ _ _ _ | (first | apply fork | apply forkp) <;> intro _ | refine forke (fun _ => ?_) fun _ _ => ?_ | refine tail_k fun _ _ _ => ?_ | refine ext_k fun _ _ _ => ?_ | refine need_a ?_ | refine st_agg KR rfl ON fun _ _ _ _ => ?_ | refine wpd_q_a ?_
  | ((with_reducible refine at_f 9 ?_); refine ret_k (law26lives) fun _ _ _ => ?_)
  | simp (maxDischargeDepth := 3) only [↓X, ↓Y, ↓Q, S1, ↓reduceIte, Nat.reduceEqDiff, Nat.reduceAdd, Int.reduceLT, Int.reduceLE, Int.reduceNeg, Int.reduceBEq, Int.reduceBNe, Int.reduceEq, Nat.reduceLeDiff, Nat.reduceMul, Nat.reduceLT, *, siteC]
  | simp (singlePass := true) (maxDischargeDepth := 99) only [*, S2, Nat.reduceLT, siteC])
 have hn20 : Hid (si.hosts.length ≤ 20) := (few26_len hfew).2.2
 have hm13 : IntKind.i64.wrap (13 * (si.hosts.length : Int)) = ((13 * si.hosts.length : Nat) : Int) := by have := hn20.out; rw [wrap_i64_id] <;> omega
 have h5 : b5 < v6.heap.size := FR
 have n5 : ¬ b5 = bR ∧ ¬ bR = b5 ∧ ¬ b5 = bA ∧ ¬ bA = b5 := by omega
 have h4 : b4 < v6.heap.size := FR
 have n4 : ¬ b4 = bR ∧ ¬ bR = b4 ∧ ¬ b4 = bA ∧ ¬ bA = b4 := by omega
 have hBR : B ≤ bR := Nat.le_trans (show B ≤ v6.heap.size from FR) r1
 have hBA : B ≤ bA := Nat.le_trans (show B ≤ v6.heap.size from FR) r2
 have hwR : w.heap.size ≤ bR := Nat.le_trans (show w.heap.size ≤ v6.heap.size from FR) r1
 have hwA : w.heap.size ≤ bA := Nat.le_trans (show w.heap.size ≤ v6.heap.size from FR) r2
 have r4 : ¬ bA = bR := fun e => r3 e.symm
 clear hfew
 (repeat' first
  | ((with_reducible refine at_row ?_); refine row1_a fun _ _ _ _ _ _ _ => ?_)
  | with_reducible first | (first | apply alloc_k | apply row_k); intro _ _ _ _ _ _ | (first | apply fork | apply forkp) <;> intro _ | refine forke (fun _ => ?_) fun _ _ => ?_ | refine tail_k fun _ _ _ => ?_ | refine ext_k fun _ _ _ => ?_ | refine need_a ?_ | refine st_agg KR rfl ON fun _ _ _ _ => ?_ | refine wpd_q_a ?_
  | ((with_reducible refine at_f 9 ?_); refine ret_k (law26lives) fun _ _ _ => ?_)
  | simp (maxDischargeDepth := 3) only [↓X, ↓Y, ↓Q, S1, ↓reduceIte, Nat.reduceEqDiff, Nat.reduceAdd, Int.reduceLT, Int.reduceLE, Int.reduceNeg, Int.reduceBEq, Int.reduceBNe, Int.reduceEq, Nat.reduceLeDiff, Nat.reduceMul, Nat.reduceLT, *, siteC, hm13]
  | simp (singlePass := true) (maxDischargeDepth := 99) only [*, S2, Nat.reduceLT, siteC, hm13])
 refine mk_own_k (n := 13 * si.hosts.length) (z := .int .u8 0) rfl (by decide) (by decide) (by have := hn20.out; omega) fun bN wL nL hbN sL qN => ?_
 have hbN2 : Blk wL bN 48 ((List.replicate (13 * si.hosts.length) (0 : Int)).map aV) := by
  have h := hbN
  simp only [cellsL] at h
  rw [flat_rep] at h
  rw [List.map_replicate]
  exact h
 have eM1 : Ext w1 w1 := Ext.refl _
 have hRM : bR < w1.heap.size := Nat.lt_of_lt_of_le hbR.lt eM1.size
 have hAM : bA < w1.heap.size := Nat.lt_of_lt_of_le hbA.lt eM1.size
 have eML : Ext w1 wL := sL.2.2.1 w1 (Ext.refl _)
 have nR := qN.1 bR hRM
 have nA := qN.1 bA hAM
 have nN5 := qN.1 b5 (show b5 < w1.heap.size from FR)
 have nN4 := qN.1 b4 (show b4 < w1.heap.size from FR)
 have hBN : B ≤ bN := FR
 have hwN : w.heap.size ≤ bN := FR
 have hXL := hX wL FR
 have hBL : B ≤ wL.heap.size := FR
 have hBLL : Bl B w wL := FR
 have hExL : Ext w wL := FR
 have hnb : ∀ c, c = bR ∨ c = bA ∨ c = bN → NB hv c ∧ NB rv c := fun c hc => by rcases hc with rfl | rfl | rfl <;> exact ⟨hXL.1.nb (by assumption), hXL.2.nb (by assumption)⟩
 have I0 : Hid (OnceI bR bA bN si.hosts.length u si (sl.map (·.x)) wv wL 0) := by
  refine ⟨0, hv, rv, x, List.replicate si.hosts.length (.slice none 0 0), fun _ => [], List.replicate (13 * si.hosts.length) 0, (hbR.ext eM1).ext eML, (hbA.ext eM1).ext eML, List.length_replicate, hbN2, List.length_replicate, ⟨hXL.1.more hBL, hXL.2.more hBL⟩, hnb, fun h hh => ?_, hval, by omega, by omega⟩
  refine ⟨.slice none 0 0, by rw [List.getElem?_replicate, if_pos hh], Sl.nil _ _ _ _, fun c _ hl => by simp [lenN] at hl, by simp, fun p hp => by simp at hp, fun id h1 h2 => ?_⟩
  have e : (List.replicate (13 * si.hosts.length) (0 : Int)).getD (13 * h + id.toNat) 0 = 0 := by
   rw [List.getD_eq_getElem?_getD, List.getElem?_replicate]
   split <;> rfl
  simp only [e]
  exact ⟨by omega, rfl⟩
 have TL : TBn (fun c => c = bR ∨ c = bA ∨ c = bN) wL wL := TBn.refl _
 have kb5 : Kp b5 v5 wL := FR
 have kb4 : Kp b4 v4 wL := FR
 have hc5 := fun w' h => k5.2.1 w' (show Kp b5 v5 w' from h)
 have hc4 := fun w' h => k4.2.1 w' (show Kp b4 v4 w' from h)
 clear hbR hbA hbN hbN2 hXL hnb k4 k5 k6 q4 q5 q6 t4 t5 t6 u4 u5 u6 s1 sL qN n1 hs' hl' hx' hX hm13 eM1 eML h5 h4 hRM hAM
 (repeat' first
  | ((with_reducible refine at_row ?_); refine row1_a fun _ _ _ _ _ _ _ => ?_)
  | with_reducible first | (first | apply alloc_k | apply row_k); intro _ _ _ _ _ _ | (first | apply fork | apply forkp) <;> intro _ | refine forke (fun _ => ?_) fun _ _ => ?_ | refine tail_k fun _ _ _ => ?_ | refine ext_k fun _ _ _ => ?_ | refine need_a ?_ | refine st_agg KR rfl ON fun _ _ _ _ => ?_ | refine wpd_q_a ?_
  | simp (maxDischargeDepth := 3) only [↓X, ↓Y, ↓Q, S1, ↓reduceIte, Nat.reduceEqDiff, Nat.reduceAdd, Int.reduceLT, Int.reduceLE, Int.reduceNeg, Int.reduceBEq, Int.reduceBNe, Int.reduceEq, Nat.reduceLeDiff, Nat.reduceMul, Nat.reduceLT, *, siteC]
  | simp (singlePass := true) (maxDischargeDepth := 99) only [*, S2, Nat.reduceLT, siteC])
 refine loop_g (min L.length 40) (fun g0 j g w' => g 12 = .int .i64 j ∧ (g 3 = g0 3 ∧ g 4 = g0 4 ∧ g 5 = g0 5 ∧ g 9 = g0 9 ∧ g 11 = g0 11) ∧ Hid (OnceI bR bA bN si.hosts.length u si (sl.map (·.x)) wv w' j ∧ TBn (fun c => c = bR ∨ c = bA ∨ c = bN) wL w')) KR ?_ ?_ ?_
 ·(repeat' first
  | ((with_reducible refine at_row ?_); refine row1_a fun _ _ _ _ _ _ _ => ?_)
  | with_reducible first | (first | apply alloc_k | apply row_k); intro _ _ _ _ _ _ | (first | apply fork | apply forkp) <;> intro _ | refine forke (fun _ => ?_) fun _ _ => ?_ | refine tail_k fun _ _ _ => ?_ | refine ext_k fun _ _ _ => ?_ | refine need_a ?_ | refine st_agg KR rfl ON fun _ _ _ _ => ?_ | refine wpd_q_a ?_
  | simp (maxDischargeDepth := 3) only [↓X, ↓Y, ↓Q, S1, ↓reduceIte, Nat.reduceEqDiff, Nat.reduceAdd, Int.reduceLT, Int.reduceLE, Int.reduceNeg, Int.reduceBEq, Int.reduceBNe, Int.reduceEq, Nat.reduceLeDiff, Nat.reduceMul, Nat.reduceLT, *]
  | simp (singlePass := true) (maxDischargeDepth := 99) only [*, S2, Nat.reduceLT])
  all_goals exact ⟨I0.out, TL⟩
 rotate_left
 ·rintro gj wj nj ⟨hij, hfj, hJj⟩
  simp (maxDischargeDepth := 3) only [U, ↓reduceIte, Nat.reduceEqDiff, *] at hfj
  have hcase : Hid ((¬ min L.length 40 < L.length) ∨ (min L.length 40 < L.length ∧ ¬ ((min L.length 40 : Nat) : Int) < 40)) := by
   show _ ∨ _
   omega
  obtain ⟨_, htb⟩ := hJj.out
  have hExj : Ext w wj := hExL.trans' ⟨htb.os, htb.tape, htb.output, htb.size, fun c hc => htb.block c (Nat.lt_of_lt_of_le hc hExL.size) (by simp only [not_or]; omega)⟩
  generalize min L.length 40 = N at *
  rcases hcase.out with h | ⟨h, h'⟩
  ·(repeat' first
  | ((with_reducible refine at_row ?_); refine row1_a fun _ _ _ _ _ _ _ => ?_)
  | with_reducible first | (first | apply alloc_k | apply row_k); intro _ _ _ _ _ _ | (first | apply fork | apply forkp) <;> intro _ | refine forke (fun _ => ?_) fun _ _ => ?_ | refine tail_k fun _ _ _ => ?_ | refine ext_k fun _ _ _ => ?_ | refine need_a ?_ | refine st_agg KR rfl ON fun _ _ _ _ => ?_ | refine wpd_q_a ?_
  | ((with_reducible refine at_f 9 ?_); refine ret_k (law26lives) fun _ _ _ => ?_)
  | simp (maxDischargeDepth := 3) only [↓X, ↓Y, ↓Q, S1, ↓reduceIte, Nat.reduceEqDiff, Nat.reduceAdd, Int.reduceLT, Int.reduceLE, Int.reduceNeg, Int.reduceBEq, Int.reduceBNe, Int.reduceEq, Nat.reduceLeDiff, Nat.reduceMul, Nat.reduceLT, *]
  | simp (singlePass := true) (maxDischargeDepth := 99) only [*, S2, Nat.reduceLT])
  ·(repeat' first
  | ((with_reducible refine at_row ?_); refine row1_a fun _ _ _ _ _ _ _ => ?_)
  | with_reducible first | (first | apply alloc_k | apply row_k); intro _ _ _ _ _ _ | (first | apply fork | apply forkp) <;> intro _ | refine forke (fun _ => ?_) fun _ _ => ?_ | refine tail_k fun _ _ _ => ?_ | refine ext_k fun _ _ _ => ?_ | refine need_a ?_ | refine st_agg KR rfl ON fun _ _ _ _ => ?_ | refine wpd_q_a ?_
  | ((with_reducible refine at_f 9 ?_); refine ret_k (law26lives) fun _ _ _ => ?_)
  | simp (maxDischargeDepth := 3) only [↓X, ↓Y, ↓Q, S1, ↓reduceIte, Nat.reduceEqDiff, Nat.reduceAdd, Int.reduceLT, Int.reduceLE, Int.reduceNeg, Int.reduceBEq, Int.reduceBNe, Int.reduceEq, Nat.reduceLeDiff, Nat.reduceMul, Nat.reduceLT, *]
  | simp (singlePass := true) (maxDischargeDepth := 99) only [*, S2, Nat.reduceLT])
 ·rintro j mj gj wj hj hjt nj ⟨hij, hfj, hJj⟩
  simp (maxDischargeDepth := 3) only [U, ↓reduceIte, Nat.reduceEqDiff, *] at hfj
  obtain ⟨hO, htb⟩ := hJj.out
  have hO : Hid _ := hO
  have hjL : j < L.length := by omega
  have hj40 : (j : Int) < 40 := by omega
  have hExj : Ext w wj := hExL.trans' ⟨htb.os, htb.tape, htb.output, htb.size, fun c hc => htb.block c (Nat.lt_of_lt_of_le hc hExL.size) (by simp only [not_or]; omega)⟩
  have hBj : Bl B w wj := ⟨hB, hExj.mono hB⟩
  have hlat : Hid (0 ≤ L[j].later ∧ L[j].later ≤ 255) := hla _ (List.getElem_mem hjL)
  have hpj := ((hL.bl hBj).fk).1 j hjL
  obtain ⟨qid, ql, qk, qh, qs, qv, hqr⟩ : ∃ qid ql qk qh qs qv, L[j].r = ⟨qid, ql, ⟨qk, qh, qs, qv⟩⟩ := ⟨_, _, _, _, _, _, rfl⟩
  have hl6 : ∀ w', Bl B w w' → rdv (some 6) w' (addF (elemAt lv 8 j) 0) = some (.agg #[intV qid, intV ql, .int .u8 qk, intV qh, intV qs, intV qv]) := fun w' h => by
   have := (hL.bl h).sub (i := j) (off := 0) (m := 6) (by simpa using hjL) (by decide)
   rw [this]
   simp only [List.getElem_map]
   show some (requestV L[j].r) = _
   rw [hqr]
   rfl
  obtain ⟨late, fl, hlf⟩ : ∃ late fl, L[j].later = late ∧ L[j].fails = fl := ⟨_, _, rfl, rfl⟩
  rw [hlf.1] at hlat
  have hl7 : ∀ w', Bl B w w' → rdv none w' (addF (elemAt lv 8 j) 6) = some (.int .u8 late) := fun w' h => by
   have := (hL.bl h).fld (i := j) (off := 6) (by simpa using hjL) (by decide)
   rw [this]
   simp only [List.getElem_map]
   show some (Value.int .u8 L[j].later) = _
   rw [hlf.1]
  have hl8 : ∀ w', Bl B w w' → rdv none w' (addF (elemAt lv 8 j) 7) = some (.bool fl) := fun w' h => by
   have := (hL.bl h).fld (i := j) (off := 7) (by simpa using hjL) (by decide)
   rw [this]
   simp only [List.getElem_map]
   show some (Value.bool L[j].fails) = _
   rw [hlf.2]
  clear hlf hqr
  have hstq := fun w' (h1 : Bl B w w') (h3 : B ≤ w'.heap.size) => ref19Valid (st := ⟨qk, qh, qs, qv⟩) h3 (hS w' h1) (hW w' h1)
  generalize hqb : stepB2 si (sl.map (·.x)) ⟨qk, qh, qs, qv⟩ = qb at hstq
  replace hqb : Hid _ := hqb
  have hwj : IntKind.i64.wrap ((j : Int) + 1) = ((j + 1 : Nat) : Int) := by rw [wrap_i64_id] <;> omega
  have hlat2 : IntKind.i64.wrap late = late := by have := hlat.out; rw [wrap_i64_id] <;> omega
  have k5 := ((hc5 wL kb5).tb htb (by simp only [not_or]; omega)).bk
  have k4 := ((hc4 wL kb4).tb htb (by simp only [not_or]; omega)).bk
  have hBjs : B ≤ wj.heap.size := hBj.size
  have rj : Ext wj wj := Ext.refl _
  clear hJj
  (repeat' first
  | ((with_reducible refine wpd_at 11 ?_); refine wpd_hold ?_)
  | ((with_reducible refine at_row ?_); refine row1_a fun _ _ _ _ _ _ _ => ?_)
  | with_reducible first | (first | apply alloc_k | apply row_k); intro _ _ _ _ _ _ | (first | apply fork | apply forkp) <;> intro _ | refine forke (fun _ => ?_) fun _ _ => ?_ | refine tail_k fun _ _ _ => ?_ | refine ext_k fun _ _ _ => ?_ | refine need_a ?_ | refine st_agg KR rfl ON fun _ _ _ _ => ?_ | refine wpd_q_a ?_
  | ((with_reducible refine at_f 18 ?_); refine ret_k (hstq _ FR FR) fun _ _ _ => ?_)
  | simp (maxDischargeDepth := 3) only [↓X, ↓Y, ↓Q, S1, ↓reduceIte, Nat.reduceEqDiff, Nat.reduceAdd, Int.reduceLT, Int.reduceLE, Int.reduceNeg, Int.reduceBEq, Int.reduceBNe, Int.reduceEq, Nat.reduceLeDiff, Nat.reduceMul, Nat.reduceLT, *]
  | simp (singlePass := true) (maxDischargeDepth := 99) only [*, S2, Nat.reduceLT])
  rotate_left
  ·refine next_g hj hjt ?_
   (repeat' first
  | ((with_reducible refine at_row ?_); refine row1_a fun _ _ _ _ _ _ _ => ?_)
  | with_reducible first | (first | apply alloc_k | apply row_k); intro _ _ _ _ _ _ | (first | apply fork | apply forkp) <;> intro _ | refine forke (fun _ => ?_) fun _ _ => ?_ | refine tail_k fun _ _ _ => ?_ | refine ext_k fun _ _ _ => ?_ | refine need_a ?_ | refine st_agg KR rfl ON fun _ _ _ _ => ?_ | refine wpd_q_a ?_
  | simp (maxDischargeDepth := 3) only [↓X, ↓Y, ↓Q, S1, ↓reduceIte, Nat.reduceEqDiff, Nat.reduceAdd, Int.reduceLT, Int.reduceLE, Int.reduceNeg, Int.reduceBEq, Int.reduceBNe, Int.reduceEq, Nat.reduceLeDiff, Nat.reduceMul, Nat.reduceLT, *]
  | simp (singlePass := true) (maxDischargeDepth := 99) only [*, S2, Nat.reduceLT])
   all_goals (rename_i wE _ _ _; exact ⟨OnceI.more (w := wj) hO.out FR, htb.trans (TBn.of_ext FR)⟩)
  rename_i bQ wq1 nq1 kq1 sq1 qq1 wq2 nq2 kQ sq2 wE nE sE hqbt
  subst hqbt
  have hpt := step_parts hqb.out
  have hhh : 0 ≤ qh ∧ qh < (si.hosts.length : Int) := ⟨hpt.2.2.2.1, hpt.2.2.2.2.1⟩
  clear hpt
  obtain ⟨hN, rfl, hhn⟩ : ∃ hN : Nat, qh = (hN : Int) ∧ hN < si.hosts.length := ⟨qh.toNat, by omega, by omega⟩
  obtain ⟨now, hvj, rvj, xj, ags, Ls, al, hbR, hbA, hal, hbN, hanl, hxj, hnx, hags, hvalj, hn0, hn1⟩ := hO.out
  obtain ⟨avj, hav, hlj, hnl, hll, hpos, htold⟩ := hags hN hhn
  have hnow2 : IntKind.i64.wrap (now + late) = now + late := by have := hlat.out; rw [wrap_i64_id] <;> omega
  have eE : Ext wj wE := FR
  have kR : Bk wE bR 67 [u.f, u.b, u.l, u.r, intV si.switches, u.k, u.h, wv, hvj, rvj, .slice (some ⟨bA, 0, none⟩) si.hosts.length si.hosts.length, intV now] := (hbR.ext eE).bk
  have kA := (hbA.ext eE).bk
  have kN := (hbN.ext eE).bk
  have k5E := (k5.2.1 wE FR).bk
  have k4E := (k4.2.1 wE FR).bk
  have kQE := (kQ.2.1 wE FR).bk
  have hBE : Bl B w wE := FR
  have hBEs : B ≤ wE.heap.size := hBE.size
  have hxE : WorldR wE wE.heap.size hvj rvj xj := ⟨(hxj.1.ext eE (Nat.le_refl _)).more eE.size, (hxj.2.ext eE (Nat.le_refl _)).more eE.size⟩
  have hlE : Sl wE wE.heap.size (some 2) 2 avj ((Ls hN).map replyV) := (hlj.ext eE (Nat.le_refl _)).more eE.size
  have qR := qq1.1 bR hbR.lt
  have qA := qq1.1 bA hbA.lt
  have qN := qq1.1 bN hbN.lt
  have qq2 : wj.heap.size ≤ bQ := qq1.2.1 _ (Nat.le_refl _)
  have hnx4 : ∀ c, c = bR ∨ c = bA ∨ c = bN ∨ c = bQ → NB hvj c ∧ NB rvj c := fun c hc => by
   rcases hc with h | h | h | rfl
   ·exact hnx c (.inl h)
   ·exact hnx c (.inr (.inl h))
   ·exact hnx c (.inr (.inr h))
   ·exact ⟨hxj.1.nb qq2, hxj.2.nb qq2⟩
  have hagsE : Hid (∀ h, h < si.hosts.length → ∃ av, ags[h]? = some av ∧ Sl wE wE.heap.size (some 2) 2 av ((Ls h).map replyV) ∧ (∀ c, c = bR ∨ c = bA ∨ c = bN ∨ c = bQ → NB av c) ∧ (Ls h).length ≤ j ∧ (∀ p ∈ Ls h, 1 ≤ p.id) ∧ Told (Ls h) (fun id => al.getD (13 * h + id.toNat) 0)) := fun h hh => by
   obtain ⟨av, g1, g2, g3, g4⟩ := hags h hh
   exact ⟨av, g1, (g2.ext eE (Nat.le_refl _)).more eE.size, fun c hc => by
    rcases hc with h | h | h | rfl
    ·exact g3 c (.inl h)
    ·exact g3 c (.inr (.inl h))
    ·exact g3 c (.inr (.inr h))
    ·exact g2.nb qq2, g4⟩
  have TE : TBn (fun c => c = bR ∨ c = bA ∨ c = bN) wL wE := htb.trans (TBn.of_ext eE)
  have hLQ : wL.heap.size ≤ bQ := Nat.le_trans htb.size qq2
  have hBQ : B ≤ bQ := Nat.le_trans hBjs qq2
  have q5 := qq1.1 b5 k5.2.2.2.1
  have q4 := qq1.1 b4 k4.2.2.2.1
  clear hbR hbA hbN hxj hlj hags htb k5 k4 kq1 sq1 sq2 sE nq1 nq2 kQ qq1 hBj hBjs rj hO hExj
  unfold wpdH
  refine wpd_rel 14 (fun iI v w9 => match iI with
   | 0 => v = .pointer (some ⟨bR, 0, none⟩)
   | 1 => v = .pointer (some ⟨bR, 0, none⟩)
   | 2 => v = .pointer (some ⟨bR, 0, none⟩)
   | 3 => v = .pointer (some ⟨bR, 11, none⟩)
   | 4 => v = intV now
   | 5 => v = lv
   | 6 => v = .int .i64 j
   | 7 => v = elemAt lv 8 j
   | 8 => v = addF (elemAt lv 8 j) 6
   | 9 => v = .int .u8 late
   | 10 => v = .int .i64 late
   | 11 => v = .int .i64 (now + late)
   | 12 => v = .pointer (some ⟨bR, 0, none⟩)
   | 13 => v = .pointer (some ⟨bR, 11, none⟩)
   | _ => False) KR KR KR ?_ ?_ ?_
  ·intro iI v w1 w2 hR hx9
   match iI, hR with
   | 0, h => exact h
   | 1, h => exact h
   | 2, h => exact h
   | 3, h => exact h
   | 4, h => exact h
   | 5, h => exact h
   | 6, h => exact h
   | 7, h => exact h
   | 8, h => exact h
   | 9, h => exact h
   | 10, h => exact h
   | 11, h => exact h
   | 12, h => exact h
   | 13, h => exact h
  ·intro iI oO hi ho gF w9 hx9 hdep hag
   have s9 := hx9.st
   have n9 : Now w9 := trivial
   have r9 := Ext.refl w9
   have z9 := hx9.size
   rcases iI with _|_|_|_|_|_|_|_|_|_|_|_|_|_|iI
   have e := Option.some.inj ho
   subst e
   have a9 := hag.at 9 KR
   simp only [S5, ↓reduceIte, Nat.reduceEqDiff, initF, *] at a9
   clear hag hdep ho
   refine relStep_off rfl ?_
   rotate_left
   have e := Option.some.inj ho
   subst e
   have a9 := hag.at 9 KR
   simp only [S5, ↓reduceIte, Nat.reduceEqDiff, initF, *] at a9
   clear hag hdep ho
   refine relStep_off rfl ?_
   rotate_left
   have e := Option.some.inj ho
   subst e
   have d1 : (gF 63) = .pointer (some ⟨bR, 0, none⟩) := hdep ⟨1, .data⟩ (by simp) rfl _ _ rfl rfl
   clear hag hdep ho
   refine relStep_off rfl ?_
   rotate_left
   have e := Option.some.inj ho
   subst e
   have d2 : (gF 64) = .pointer (some ⟨bR, 0, none⟩) := hdep ⟨2, .data⟩ (by simp) rfl _ _ rfl rfl
   clear hag hdep ho
   refine relStep_off rfl ?_
   rotate_left
   have e := Option.some.inj ho
   subst e
   have d3 : (gF 65) = .pointer (some ⟨bR, 11, none⟩) := hdep ⟨3, .data⟩ (by simp) rfl _ _ rfl rfl
   clear hag hdep ho
   refine relStep_off rfl ?_
   rotate_left
   have e := Option.some.inj ho
   subst e
   have a3 := hag.at 3 KR
   simp only [S5, ↓reduceIte, Nat.reduceEqDiff, initF, *] at a3
   clear hag hdep ho
   refine relStep_off rfl ?_
   rotate_left
   have e := Option.some.inj ho
   subst e
   have a12 := hag.at 12 KR
   simp only [S5, ↓reduceIte, Nat.reduceEqDiff, initF, *] at a12
   clear hag hdep ho
   refine relStep_off rfl ?_
   rotate_left
   have e := Option.some.inj ho
   subst e
   have d5 : (gF 67) = lv := hdep ⟨5, .data⟩ (by simp) rfl _ _ rfl rfl
   have d6 : (gF 68) = .int .i64 j := hdep ⟨6, .data⟩ (by simp) rfl _ _ rfl rfl
   clear hag hdep ho
   refine relStep_off rfl ?_
   rotate_left
   have e := Option.some.inj ho
   subst e
   have d7 : (gF 69) = elemAt lv 8 j := hdep ⟨7, .data⟩ (by simp) rfl _ _ rfl rfl
   clear hag hdep ho
   refine relStep_off rfl ?_
   rotate_left
   have e := Option.some.inj ho
   subst e
   have d8 : (gF 70) = addF (elemAt lv 8 j) 6 := hdep ⟨8, .data⟩ (by simp) rfl _ _ rfl rfl
   clear hag hdep ho
   refine relStep_off rfl ?_
   rotate_left
   have e := Option.some.inj ho
   subst e
   have d9 : (gF 71) = .int .u8 late := hdep ⟨9, .data⟩ (by simp) rfl _ _ rfl rfl
   clear hag hdep ho
   refine relStep_off rfl ?_
   rotate_left
   have e := Option.some.inj ho
   subst e
   have d4 : (gF 66) = intV now := hdep ⟨4, .data⟩ (by simp) rfl _ _ rfl rfl
   have d10 : (gF 72) = .int .i64 late := hdep ⟨10, .data⟩ (by simp) rfl _ _ rfl rfl
   clear hag hdep ho
   refine relStep_off rfl ?_
   rotate_left
   have e := Option.some.inj ho
   subst e
   have d0 : (gF 62) = .pointer (some ⟨bR, 0, none⟩) := hdep ⟨0, .data⟩ (by simp) rfl _ _ rfl rfl
   clear hag hdep ho
   refine relStep_off rfl ?_
   rotate_left
   have e := Option.some.inj ho
   subst e
   have d12 : (gF 74) = .pointer (some ⟨bR, 0, none⟩) := hdep ⟨12, .data⟩ (by simp) rfl _ _ rfl rfl
   clear hag hdep ho
   refine relStep_off rfl ?_
   rotate_left
   ·omega
   all_goals (repeat' first
  | ((with_reducible refine at_row ?_); refine row1_a fun _ _ _ _ _ _ _ => ?_)
  | with_reducible first | (first | apply alloc_k | apply row_k); intro _ _ _ _ _ _ | (first | apply fork | apply forkp) <;> intro _ | refine forke (fun _ => ?_) fun _ _ => ?_ | refine tail_k fun _ _ _ => ?_ | refine ext_k fun _ _ _ => ?_ | refine need_a ?_ | refine st_agg KR rfl ON fun _ _ _ _ => ?_ | refine wpd_q_a ?_
  | simp (maxDischargeDepth := 3) only [↓X, ↓Y, ↓Q, S1, ↓reduceIte, Nat.reduceEqDiff, Nat.reduceAdd, Int.reduceLT, Int.reduceLE, Int.reduceNeg, Int.reduceBEq, Int.reduceBNe, Int.reduceEq, Nat.reduceLeDiff, Nat.reduceMul, Nat.reduceLT, *]
  | simp (singlePass := true) (maxDischargeDepth := 99) only [*, S2, Nat.reduceLT])
  ·intro g9 w9 hx9 hR hag
   have s9 := hx9.st
   have n9 : Now w9 := trivial
   have r9 := Ext.refl w9
   have z9 := hx9.size
   have d11 : (g9 73) = .int .i64 (now + late) := hR 11 _ _ (by decide) rfl rfl
   have d13 : (g9 75) = .pointer (some ⟨bR, 11, none⟩) := hR 13 _ _ (by decide) rfl rfl
   have a3 := hag.at 3 KR
   have a4 := hag.at 4 KR
   have a5 := hag.at 5 KR
   have a9 := hag.at 9 KR
   have a11 := hag.at 11 KR
   have a12 := hag.at 12 KR
   have a13 := hag.at 13 KR
   have a14 := hag.at 14 KR
   simp only [S5, ↓reduceIte, Nat.reduceEqDiff, initF, *] at a3 a4 a5 a9 a11 a12 a13 a14
   clear hag hR
   simp only [List.drop_succ_cons, List.drop_zero]
   (repeat' first
  | ((with_reducible refine at_row ?_); refine row1_a fun _ _ _ _ _ _ _ => ?_)
  | with_reducible first | (first | apply alloc_k | apply row_k); intro _ _ _ _ _ _ | (first | apply fork | apply forkp) <;> intro _ | refine forke (fun _ => ?_) fun _ _ => ?_ | refine tail_k fun _ _ _ => ?_ | refine ext_k fun _ _ _ => ?_ | refine need_a ?_ | refine st_agg KR rfl ON fun _ _ _ _ => ?_ | refine wpd_q_a ?_
  | simp (maxDischargeDepth := 3) only [↓X, ↓Y, ↓Q, S1, ↓reduceIte, Nat.reduceEqDiff, Nat.reduceAdd, Int.reduceLT, Int.reduceLE, Int.reduceNeg, Int.reduceBEq, Int.reduceBNe, Int.reduceEq, Nat.reduceLeDiff, Nat.reduceMul, Nat.reduceLT, *]
  | simp (singlePass := true) (maxDischargeDepth := 99) only [*, S2, Nat.reduceLT])
   refine st_one KR (by simp) rfl fun w10 n10 kR10 s10 => ?_
   have keyR : ∀ c, c < wE.heap.size → ¬ (c = bR ∨ c = bA ∨ c = bN) → Kp c wE w10 := fun c h1 h2 => by
    have h3 : Kp c wE wE := ⟨h1, rfl⟩
    have h4 : ¬ c = bR := fun e => h2 (.inl e)
    exact FR
   have zj : wE.heap.size ≤ w10.heap.size := FR
   have X10 := hxE.via keyR hnx zj
   have A10 := hlE.via keyR hnl zj
   have kA10 := (kA.2.1 w10 FR).bk
   have kN10 := (kN.2.1 w10 FR).bk
   have kQ10 := (kQE.2.1 w10 FR).bk
   have k510 := (k5E.2.1 w10 FR).bk
   have k410 := (k4E.2.1 w10 FR).bk
   have hB10 : Bl B w w10 := FR
   have hBs : B ≤ w10.heap.size := hB10.size
   have XK := (X10.sk (Nat.le_refl _)).2.2.2.2
   have AK := (A10.k (Nat.le_refl _)).2.2.2.2.2.2.1
   have hags10 : Hid (∀ h, h < si.hosts.length → ∃ av, ags[h]? = some av ∧ Sl w10 w10.heap.size (some 2) 2 av ((Ls h).map replyV) ∧ (∀ c, c = bR ∨ c = bA ∨ c = bN ∨ c = bQ → NB av c) ∧ (Ls h).length ≤ j ∧ (∀ p ∈ Ls h, 1 ≤ p.id) ∧ Told (Ls h) (fun id => al.getD (13 * h + id.toNat) 0)) := fun h hh => by
    obtain ⟨av, g1, g2, g3, g4⟩ := hagsE.out h hh
    exact ⟨av, g1, g2.via keyR (fun c hc => g3 c (by rcases hc with h | h | h <;> simp [h])) zj, g3, g4⟩
   have h0R : 0 ≤ bR := Nat.zero_le _
   have b00 : Bl 0 wE wE := Bl.refl (Nat.zero_le _)
   have b01 : Bl 0 wE w10 := FR
   have T10 : Hid (TBn (fun c => c = bR ∨ c = bA ∨ c = bN) wL w10) := TE.trans (tbn_of b01 keyR zj)
   have bb10 : Bl w10.heap.size w10 w10 := Bl.refl (Nat.le_refl _)
   have e10 : Ext w10 w10 := Ext.refl _
   clear keyR b00 b01 h0R hxE hlE hagsE TE kR kA kN kQE k5E k4E s10 hBE hBEs eE zj
   have hv1 := X10.1.one
   have rv1 := X10.2.one
   obtain ⟨q1, hq1, hq1b⟩ : ∃ q1, IntKind.i64.wrap ((IntKind.u64.wrap ql).tmod 1000) = q1 ∧ Hid (0 ≤ q1) := ⟨_, rfl, (once_rng ql 1000 (by decide)).1⟩
   obtain ⟨qI, hqI, hqIb⟩ : ∃ qI : Nat, IntKind.i64.wrap (1 + IntKind.i64.wrap ((IntKind.u64.wrap qid).tmod 12)) = (qI : Int) ∧ Hid (1 ≤ qI ∧ qI ≤ 12) := by
    have h := once_rng qid 12 (by decide)
    generalize IntKind.i64.wrap ((IntKind.u64.wrap qid).tmod 12) = z at h
    have e : IntKind.i64.wrap (1 + z) = 1 + z := by rw [wrap_i64_id] <;> omega
    exact ⟨(1 + z).toNat, by rw [e]; omega, by show 1 ≤ _ ∧ _ ≤ 12; omega⟩
   (repeat' first
  | ((with_reducible refine wpd_at 19 ?_); refine wpd_hold ?_)
  | ((with_reducible refine wpd_at 13 ?_); refine wpd_hold ?_)
  | refine st_one KR (by simp) rfl fun _ _ _ _ => ?_
  | ((with_reducible refine at_row ?_); refine row1_a fun _ _ _ _ _ _ _ => ?_)
  | with_reducible first | (first | apply alloc_k | apply row_k); intro _ _ _ _ _ _ | (first | apply fork | apply forkp) <;> intro _ | refine forke (fun _ => ?_) fun _ _ => ?_ | refine tail_k fun _ _ _ => ?_ | refine ext_k fun _ _ _ => ?_ | refine need_a ?_ | refine st_agg KR rfl ON fun _ _ _ _ => ?_ | refine wpd_q_a ?_
  | simp (maxDischargeDepth := 3) only [↓X, ↓Y, ↓Q, S1, ↓reduceIte, Nat.reduceEqDiff, Nat.reduceAdd, Int.reduceLT, Int.reduceLE, Int.reduceNeg, Int.reduceBEq, Int.reduceBNe, Int.reduceEq, Nat.reduceLeDiff, Nat.reduceMul, Nat.reduceLT, *, hq1, hqI]
  | simp (singlePass := true) (maxDischargeDepth := 99) only [*, S2, Nat.reduceLT, hq1, hqI])
   ·rename_i hfl
    subst hfl
    obtain ⟨fe, fw, hfe, hfw, hfv⟩ : ∃ fe fw, failE si (sl.map (·.x)) xj hN = fe ∧ failW si (sl.map (·.x)) xj hN = fw ∧ Hid (fe = 0 → validB si (sl.map (·.x)) fw = true) := ⟨_, _, rfl, rfl, fun h => failW_valid h⟩
    have hRlt : bR < w10.heap.size := kR10.2.2.2.1
    have hAlt : bA < w10.heap.size := kA10.2.2.2.1
    have hNlt : bN < w10.heap.size := kN10.2.2.2.1
    clear hqIb hq1b hqI hq1 qI q1 A10 AK X10 hlat2 hnow2
    unfold wpdH
    refine wpd_relS 13 [(12, 11)] (fun iI s v w9 => match iI with
     | 0 => v = .agg (siteC u si).toArray
     | 1 => v = .agg #[wv]
     | 2 => v = .pointer (some ⟨bR, 0, none⟩)
     | 3 => v = .pointer (some ⟨bR, 0, none⟩)
     | 4 => v = .pointer (some ⟨bR, 8, none⟩)
     | 5 => v = .agg #[hvj, rvj]
     | 6 => v = .int .i64 hN
     | 7 => ∃ v0, v = .tuple #[v0, intV fe] ∧ OwnW w10.heap.size v0 w9 fw
     | 8 => ∃ v0, v = .tuple #[v0, intV fe] ∧ OwnW w10.heap.size v0 w9 fw
     | 9 => OwnW w10.heap.size v w9 fw
     | 10 => v = intV fe
     | 11 => ∃ b, v = .pointer (some ⟨b, 0, none⟩) ∧ w10.heap.size ≤ b ∧ (s = false → Blk w9 b 36 [.slice none 0 0, .slice none 0 0]) ∧ (s = true → ∃ h r, Blk w9 b 36 [h, r] ∧ OwnH w9 w10.heap.size h fw.hosts ∧ OwnP w9 w10.heap.size r fw.replicas)
     | 12 => True
     | _ => False) KR KR KR KR ?_ ?_ ?_
    ·intro iI s v w1 w2 hR hx9
     match iI, hR with
     | 0, h => exact h
     | 1, h => exact h
     | 2, h => exact h
     | 3, h => exact h
     | 4, h => exact h
     | 5, h => exact h
     | 6, h => exact h
     | 7, h => exact (let ⟨a, e, o⟩ := h; ⟨a, e, o.ext hx9⟩)
     | 8, h => exact (let ⟨a, e, o⟩ := h; ⟨a, e, o.ext hx9⟩)
     | 9, h => exact OwnW.ext h hx9
     | 10, h => exact h
     | 11, ⟨b, e, h1, h2, h3⟩ => exact ⟨b, e, h1, fun hs => (h2 hs).ext hx9, fun hs => (fun h => (let ⟨a, b, k, o1, o2⟩ := h; ⟨a, b, k.ext hx9, o1.ext hx9, o2.ext hx9⟩)) (h3 hs)⟩
     | 12, h => exact h
    ·intro iI oO hi ho gF w9 S9 hx9 hdep hag
     have s9 := hx9.st
     have n9 : Now w9 := trivial
     have r9 := Ext.refl w9
     have z9 := hx9.size
     rcases iI with _|_|_|_|_|_|_|_|_|_|_|_|_|iI
     have e := Option.some.inj ho
     subst e
     have a4 := hag.at 4 KR
     simp only [S5, ↓reduceIte, Nat.reduceEqDiff, initF, *] at a4
     clear hag hdep ho
     refine ⟨fun _ => ?_, fun a9 pa da hal => by simp [alL] at hal⟩
     refine relStep_off rfl ?_
     rotate_left
     have e := Option.some.inj ho
     subst e
     have a5 := hag.at 5 KR
     simp only [S5, ↓reduceIte, Nat.reduceEqDiff, initF, *] at a5
     clear hag hdep ho
     refine ⟨fun _ => ?_, fun a9 pa da hal => by simp [alL] at hal⟩
     refine relStep_off rfl ?_
     rotate_left
     have e := Option.some.inj ho
     subst e
     have a9 := hag.at 9 KR
     simp only [S5, ↓reduceIte, Nat.reduceEqDiff, initF, *] at a9
     clear hag hdep ho
     refine ⟨fun _ => ?_, fun a9 pa da hal => by simp [alL] at hal⟩
     refine relStep_off rfl ?_
     rotate_left
     have e := Option.some.inj ho
     subst e
     have d2 : (gF 84) = .pointer (some ⟨bR, 0, none⟩) := hdep ⟨2, .data⟩ (by simp) rfl _ _ rfl rfl
     clear hag hdep ho
     refine ⟨fun _ => ?_, fun a9 pa da hal => by simp [alL] at hal⟩
     refine relStep_off rfl ?_
     rotate_left
     have e := Option.some.inj ho
     subst e
     have d3 : (gF 85) = .pointer (some ⟨bR, 0, none⟩) := hdep ⟨3, .data⟩ (by simp) rfl _ _ rfl rfl
     clear hag hdep ho
     refine ⟨fun _ => ?_, fun a9 pa da hal => by simp [alL] at hal⟩
     refine relStep_off rfl ?_
     rotate_left
     have e := Option.some.inj ho
     subst e
     have d4 : (gF 86) = .pointer (some ⟨bR, 8, none⟩) := hdep ⟨4, .data⟩ (by simp) rfl _ _ rfl rfl
     clear hag hdep ho
     refine ⟨fun _ => ?_, fun a9 pa da hal => by simp [alL] at hal⟩
     refine relStep_off rfl ?_
     rotate_left
     have e := Option.some.inj ho
     subst e
     have a14 := hag.at 14 KR
     simp only [S5, ↓reduceIte, Nat.reduceEqDiff, initF, *] at a14
     clear hag hdep ho
     refine ⟨fun _ => ?_, fun a9 pa da hal => by simp [alL] at hal⟩
     refine relStep_off rfl ?_
     rotate_left
     have e := Option.some.inj ho
     subst e
     have d0 : (gF 82) = .agg (siteC u si).toArray := hdep ⟨0, .data⟩ (by simp) rfl _ _ rfl rfl
     have d1 : (gF 83) = .agg #[wv] := hdep ⟨1, .data⟩ (by simp) rfl _ _ rfl rfl
     have d5 : (gF 87) = .agg #[hvj, rvj] := hdep ⟨5, .data⟩ (by simp) rfl _ _ rfl rfl
     have d6 : (gF 88) = .int .i64 hN := hdep ⟨6, .data⟩ (by simp) rfl _ _ rfl rfl
     clear hag hdep ho
     refine ⟨fun _ => ?_, fun a9 pa da hal => by simp [alL] at hal⟩
     refine relStep_off rfl ?_
     rotate_left
     have e := Option.some.inj ho
     subst e
     have d7 : ∃ v0, (gF 89) = .tuple #[v0, intV fe] ∧ OwnW w10.heap.size v0 w9 fw := hdep ⟨7, .data⟩ (by simp) rfl _ _ rfl rfl
     clear hag hdep ho
     refine ⟨fun _ => ?_, fun a9 pa da hal => by simp [alL] at hal⟩
     refine relStep_off rfl ?_
     rotate_left
     have e := Option.some.inj ho
     subst e
     have d8 : ∃ v0, (gF 81) = .tuple #[v0, intV fe] ∧ OwnW w10.heap.size v0 w9 fw := hdep ⟨8, .data⟩ (by simp) rfl _ _ rfl rfl
     obtain ⟨v6, e6, o6⟩ := d8
     clear hag hdep ho
     refine ⟨fun _ => ?_, fun a9 pa da hal => by simp [alL] at hal⟩
     refine relStep_off rfl ?_
     rotate_left
     have e := Option.some.inj ho
     subst e
     have d8 : ∃ v0, (gF 81) = .tuple #[v0, intV fe] ∧ OwnW w10.heap.size v0 w9 fw := hdep ⟨8, .data⟩ (by simp) rfl _ _ rfl rfl
     obtain ⟨v6, e6, o6⟩ := d8
     clear hag hdep ho
     refine ⟨fun _ => ?_, fun a9 pa da hal => by simp [alL] at hal⟩
     refine relStep_off rfl ?_
     rotate_left
     have e := Option.some.inj ho
     subst e
     clear hag hdep ho
     refine ⟨fun _ => ?_, fun a9 pa da hal => by simp [alL] at hal⟩
     refine relStep_off rfl ?_
     rotate_left
     have e := Option.some.inj ho
     subst e
     have d11 : ∃ b, (gF 15) = .pointer (some ⟨b, 0, none⟩) ∧ w10.heap.size ≤ b ∧ ((S9 11) = false → Blk w9 b 36 [.slice none 0 0, .slice none 0 0]) ∧ ((S9 11) = true → ∃ h r, Blk w9 b 36 [h, r] ∧ OwnH w9 w10.heap.size h fw.hosts ∧ OwnP w9 w10.heap.size r fw.replicas) := hdep ⟨11, .data⟩ (by simp) rfl _ _ rfl rfl
     obtain ⟨b11, e11, q11, hz11, _⟩ := d11
     have d9 : OwnW w10.heap.size (gF 90) w9 fw := hdep ⟨9, .data⟩ (by simp) rfl _ _ rfl rfl
     obtain ⟨h7, r7, e7, oh7, or7⟩ := d9
     have H7 := oh7.one
     have R7 := or7.one
     clear hag hdep ho
     refine ⟨fun h => by simp [alL] at h, fun a9 pa da hal hS9 hpa hda => ?_⟩
     obtain rfl : 11 = a9 := by simpa [alL] using hal
     obtain rfl := Option.some.inj hpa
     obtain rfl := Option.some.inj hda
     have hz := hz11 hS9
     clear hal hpa hda hz11
     refine relStep_off rfl ?_
     rotate_left
     ·omega
     all_goals (repeat' first
  | ((with_reducible refine at_row ?_); refine row1_a fun _ _ _ _ _ _ _ => ?_)
  | with_reducible first | (first | apply alloc_k | apply row_k); intro _ _ _ _ _ _ | (first | apply fork | apply forkp) <;> intro _ | refine forke (fun _ => ?_) fun _ _ => ?_ | refine tail_k fun _ _ _ => ?_ | refine ext_k fun _ _ _ => ?_ | refine need_a ?_ | refine st_agg KR rfl ON fun _ _ _ _ => ?_ | refine wpd_q_a ?_
  | simp (maxDischargeDepth := 3) only [↓X, ↓Y, ↓Q, S1, ↓reduceIte, Nat.reduceEqDiff, Nat.reduceAdd, Int.reduceLT, Int.reduceLE, Int.reduceNeg, Int.reduceBEq, Int.reduceBNe, Int.reduceEq, Nat.reduceLeDiff, Nat.reduceMul, Nat.reduceLT, *, siteC]
  | simp (singlePass := true) (maxDischargeDepth := 99) only [*, S2, Nat.reduceLT, siteC])
     all_goals first
      | (refine fail26 (hS _ FR) (hW _ FR) (XK _ FR) z9 FR FR FR hfe hfw)
      | (exact d7)
      | (exact o6)
      | (rename_i b10 w10 n10 k10 s10 q10; exact ⟨_, rfl, FR, fun _ => k10.2.1 _ k10.2.2.1, fun h => absurd h (by decide)⟩)
      | (
        refine stT_agg (w0 := w9) (vs := [h7, r7]) hz rfl KR rfl (by simp [H7, R7]) fun w10 hb10 hc => ⟨b11, hc, q11, ⟨b11, (by first | exact e11 | rfl), q11, fun h => absurd h (by decide), fun _ => ⟨h7, r7, hb10, oh7.fra hz hc, or7.fra hz hc⟩⟩, ?_⟩
        intro iI s v hne hR
        match iI, hR with
        | 0, h | 1, h | 2, h | 3, h | 4, h | 5, h | 6, h | 10, h | 12, h => exact h
        | 7, h => exact (let ⟨a, e, o⟩ := h; ⟨a, e, o.fr hz hc⟩)
        | 8, h => exact (let ⟨a, e, o⟩ := h; ⟨a, e, o.fr hz hc⟩)
        | 9, h => exact OwnW.fr h hz hc
        | 11, _ => exact absurd rfl hne)
    ·intro g9 w9 hx9 hR hag
     have s9 := hx9.st
     have n9 : Now w9 := trivial
     have r9 := Ext.refl w9
     have z9 := hx9.size
     have d10 : (g9 91) = intV fe := hR 10 _ _ (by decide) rfl rfl
     have d11 : ∃ b, (g9 15) = .pointer (some ⟨b, 0, none⟩) ∧ w10.heap.size ≤ b ∧ (true = false → Blk w9 b 36 [.slice none 0 0, .slice none 0 0]) ∧ (true = true → ∃ h r, Blk w9 b 36 [h, r] ∧ OwnH w9 w10.heap.size h fw.hosts ∧ OwnP w9 w10.heap.size r fw.replicas) := hR 11 _ _ (by decide) rfl rfl
     obtain ⟨b11, e11, q11, _, f11⟩ := d11
     replace f11 := f11 rfl
     have nw11 := Nw.of q11
     obtain ⟨hA, rA, kwA, ohA, orA⟩ := f11
     have KWA := kwA.bk
     have HA := ohA.o
     have RA := orA.o
     have nHA := And.intro (ohA.far hRlt) (And.intro (ohA.far hAlt) (ohA.far hNlt))
     have nRA := And.intro (orA.far hRlt) (And.intro (orA.far hAlt) (orA.far hNlt))
     clear kwA ohA orA
     have a3 := hag.at 3 KR
     have a4 := hag.at 4 KR
     have a5 := hag.at 5 KR
     have a9 := hag.at 9 KR
     have a11 := hag.at 11 KR
     have a12 := hag.at 12 KR
     simp only [S5, ↓reduceIte, Nat.reduceEqDiff, initF, *] at a3 a4 a5 a9 a11 a12
     clear hag hR
     simp only [List.drop_succ_cons, List.drop_zero]
     rename_i q8
     clear q8
     have key1 : ∀ c, c < w10.heap.size → ¬ (c = bR ∨ c = bA ∨ c = bN ∨ c = bQ) → ∀ we, (∀ b a, Kp b a w9 → ¬ b = bR → Kp b a we) → Kp c w10 we := fun c h1 h2 we hk => hk c w10 (by have h3 : Kp c w10 w10 := ⟨h1, rfl⟩; exact FR) (fun e => h2 (.inl e))
     by_cases h0 : fe = 0
     ·subst h0
      (repeat' first
  | ((with_reducible refine at_row ?_); refine row1_a fun _ _ _ _ _ _ _ => ?_)
  | with_reducible first | (first | apply alloc_k | apply row_k); intro _ _ _ _ _ _ | (first | apply fork | apply forkp) <;> intro _ | refine forke (fun _ => ?_) fun _ _ => ?_ | refine tail_k fun _ _ _ => ?_ | refine ext_k fun _ _ _ => ?_ | refine need_a ?_ | refine st_agg KR rfl ON fun _ _ _ _ => ?_ | refine wpd_q_a ?_
  | simp (maxDischargeDepth := 3) only [↓X, ↓Y, ↓Q, S1, ↓reduceIte, Nat.reduceEqDiff, Nat.reduceAdd, Int.reduceLT, Int.reduceLE, Int.reduceNeg, Int.reduceBEq, Int.reduceBNe, Int.reduceEq, Nat.reduceLeDiff, Nat.reduceMul, Nat.reduceLT, *]
  | simp (singlePass := true) (maxDischargeDepth := 99) only [*, S2, Nat.reduceLT])
      refine st_aggAt (vs := [hA, rA]) (off := 8) KR (by simp) (by simp [HA.2.2.2.1, RA.2.2.2.1]) fun we ne ke se => ?_
      have oH := HA.1 we FR
      have oR := RA.1 we FR
      have zz : w10.heap.size ≤ we.heap.size := FR
      have h0R : 0 ≤ bR := Nat.zero_le _
      have b00 : Bl 0 w10 w10 := Bl.refl (Nat.zero_le _)
      have b01 : Bl 0 w10 we := FR
      have FF : Hid (OnceI bR bA bN si.hosts.length u si (sl.map (·.x)) wv we (j + 1) ∧ TBn (fun c => c = bR ∨ c = bA ∨ c = bN) wL we) := by
       refine ⟨⟨now + late, hA, rA, fw, ags, Ls, al, ke.2.1 we ke.2.2.1, kA10.2.1 we FR, hal, kN10.2.1 we FR, hanl, ⟨oH.slN (f := stateC), oR.slN (f := replC)⟩, fun c hc => by rcases hc with rfl | rfl | rfl <;> exact ⟨oH.nb (by assumption), oR.nb (by assumption)⟩, once_nb (once_ags hags10.out (fun c h1 h2 => key1 c h1 h2 we se.1) zz), hfv.out rfl, by have := hlat.out; omega, by have := hlat.out; omega⟩, T10.out.trans (tbn_of b01 (fun c h1 h2 => ?_) zz)⟩
       have h3 : Kp c w10 w10 := ⟨h1, rfl⟩
       have h4 : ¬ c = bR := fun e => h2 (.inl e)
       exact FR
      clear oH oR
      (repeat' first
  | ((with_reducible refine at_row ?_); refine row1_a fun _ _ _ _ _ _ _ => ?_)
  | with_reducible first | (first | apply alloc_k | apply row_k); intro _ _ _ _ _ _ | (first | apply fork | apply forkp) <;> intro _ | refine forke (fun _ => ?_) fun _ _ => ?_ | refine tail_k fun _ _ _ => ?_ | refine ext_k fun _ _ _ => ?_ | refine need_a ?_ | refine st_agg KR rfl ON fun _ _ _ _ => ?_ | refine wpd_q_a ?_
  | simp (maxDischargeDepth := 3) only [↓X, ↓Y, ↓Q, S1, ↓reduceIte, Nat.reduceEqDiff, Nat.reduceAdd, Int.reduceLT, Int.reduceLE, Int.reduceNeg, Int.reduceBEq, Int.reduceBNe, Int.reduceEq, Nat.reduceLeDiff, Nat.reduceMul, Nat.reduceLT, *]
  | simp (singlePass := true) (maxDischargeDepth := 99) only [*, S2, Nat.reduceLT])
      refine next_g hj hjt ?_
      (repeat' first
  | ((with_reducible refine at_row ?_); refine row1_a fun _ _ _ _ _ _ _ => ?_)
  | with_reducible first | (first | apply alloc_k | apply row_k); intro _ _ _ _ _ _ | (first | apply fork | apply forkp) <;> intro _ | refine forke (fun _ => ?_) fun _ _ => ?_ | refine tail_k fun _ _ _ => ?_ | refine ext_k fun _ _ _ => ?_ | refine need_a ?_ | refine st_agg KR rfl ON fun _ _ _ _ => ?_ | refine wpd_q_a ?_
  | simp (maxDischargeDepth := 3) only [↓X, ↓Y, ↓Q, S1, ↓reduceIte, Nat.reduceEqDiff, Nat.reduceAdd, Int.reduceLT, Int.reduceLE, Int.reduceNeg, Int.reduceBEq, Int.reduceBNe, Int.reduceEq, Nat.reduceLeDiff, Nat.reduceMul, Nat.reduceLT, *]
  | simp (singlePass := true) (maxDischargeDepth := 99) only [*, S2, Nat.reduceLT])
      all_goals exact FF
     ·have h1 : (fe == 0) = false := by simpa using h0
      have FF : Hid (∀ we, Ext w9 we → Hid (OnceI bR bA bN si.hosts.length u si (sl.map (·.x)) wv we (j + 1) ∧ TBn (fun c => c = bR ∨ c = bA ∨ c = bN) wL we)) := fun we he => by
       have e1 : Ext w10 we := (s9.2.2.1 w10 e10).trans he
       refine ⟨⟨now + late, hvj, rvj, xj, ags, Ls, al, (kR10.2.1 w10 kR10.2.2.1).ext e1, (kA10.2.1 w10 kA10.2.2.1).ext e1, hal, (kN10.2.1 w10 kN10.2.2.1).ext e1, hanl, ⟨((XK w10 bb10).1.ext e1 (Nat.le_refl _)).more e1.size, ((XK w10 bb10).2.ext e1 (Nat.le_refl _)).more e1.size⟩, hnx, once_nb (once_ags hags10.out (fun c h1 h2 => ⟨h1, e1.block c h1⟩) e1.size), hvalj, by have := hlat.out; omega, by have := hlat.out; omega⟩, T10.out.trans (TBn.of_ext e1)⟩
      have rr : Ext w9 w9 := Ext.refl _
      (repeat' first
  | ((with_reducible refine at_row ?_); refine row1_a fun _ _ _ _ _ _ _ => ?_)
  | with_reducible first | (first | apply alloc_k | apply row_k); intro _ _ _ _ _ _ | (first | apply fork | apply forkp) <;> intro _ | refine forke (fun _ => ?_) fun _ _ => ?_ | refine tail_k fun _ _ _ => ?_ | refine ext_k fun _ _ _ => ?_ | refine need_a ?_ | refine st_agg KR rfl ON fun _ _ _ _ => ?_ | refine wpd_q_a ?_
  | simp (maxDischargeDepth := 3) only [↓X, ↓Y, ↓Q, S1, ↓reduceIte, Nat.reduceEqDiff, Nat.reduceAdd, Int.reduceLT, Int.reduceLE, Int.reduceNeg, Int.reduceBEq, Int.reduceBNe, Int.reduceEq, Nat.reduceLeDiff, Nat.reduceMul, Nat.reduceLT, *]
  | simp (singlePass := true) (maxDischargeDepth := 99) only [*, S2, Nat.reduceLT])
      refine next_g hj hjt ?_
      (repeat' first
  | ((with_reducible refine at_row ?_); refine row1_a fun _ _ _ _ _ _ _ => ?_)
  | with_reducible first | (first | apply alloc_k | apply row_k); intro _ _ _ _ _ _ | (first | apply fork | apply forkp) <;> intro _ | refine forke (fun _ => ?_) fun _ _ => ?_ | refine tail_k fun _ _ _ => ?_ | refine ext_k fun _ _ _ => ?_ | refine need_a ?_ | refine st_agg KR rfl ON fun _ _ _ _ => ?_ | refine wpd_q_a ?_
  | simp (maxDischargeDepth := 3) only [↓X, ↓Y, ↓Q, S1, ↓reduceIte, Nat.reduceEqDiff, Nat.reduceAdd, Int.reduceLT, Int.reduceLE, Int.reduceNeg, Int.reduceBEq, Int.reduceBNe, Int.reduceEq, Nat.reduceLeDiff, Nat.reduceMul, Nat.reduceLT, *]
  | simp (singlePass := true) (maxDischargeDepth := 99) only [*, S2, Nat.reduceLT])
      all_goals (refine FF.out _ ?_; exact FR)
   ·rename_i hfl wa1 na1 ka1 sa1 wa2 na2 kQ2 sa2 bW wa3 na3 ka3 sa3 qW wI nI kW sI
    subst hfl
    have hRlt : bR < w10.heap.size := kR10.2.2.2.1
    have hAlt : bA < w10.heap.size := kA10.2.2.2.1
    have hNlt : bN < w10.heap.size := kN10.2.2.2.1
    have hQlt : bQ < w10.heap.size := kQ10.2.2.2.1
    have z2 : w10.heap.size ≤ wa2.heap.size := FR
    have hWge : wa2.heap.size ≤ bW := qW.2.1 _ (Nat.le_refl _)
    have h5lt : b5 < w10.heap.size := k510.2.2.2.1
    have h4lt : b4 < w10.heap.size := k410.2.2.2.1
    have nW4 : (¬ bR = bW ∧ ¬ bW = bR) ∧ (¬ bA = bW ∧ ¬ bW = bA) ∧ (¬ bN = bW ∧ ¬ bW = bN) ∧ (¬ b5 = bW ∧ ¬ bW = b5) ∧ (¬ b4 = bW ∧ ¬ bW = b4) ∧ ¬ bQ = bW ∧ ¬ bW = bQ := by omega
    have keyI : ∀ c, c < w10.heap.size → ¬ (c = bR ∨ c = bA ∨ c = bN ∨ c = bQ) → Kp c w10 wI := fun c h1 h2 => by
     have h3 : Kp c w10 w10 := ⟨h1, rfl⟩
     have h4 : ¬ c = bQ := fun e => h2 (.inr (.inr (.inr e)))
     have h5 : ¬ c = bW := by omega
     exact FR
    have zI : w10.heap.size ≤ wI.heap.size := FR
    have XI := X10.via keyI hnx4 zI
    have kRI := (kR10.2.1 wI FR).bk
    have kAI := (kA10.2.1 wI FR).bk
    have kNI := (kN10.2.1 wI FR).bk
    have kQI := (kQ2.2.1 wI FR).bk
    have k5I := (k510.2.1 wI FR).bk
    have k4I := (k410.2.1 wI FR).bk
    have hBW : B ≤ bW := FR
    have hBI : Bl B w wI := FR
    have hBIs : B ≤ wI.heap.size := hBI.size
    have hnW : NB hvj bW ∧ NB rvj bW := ⟨X10.1.nb (by omega), X10.2.nb (by omega)⟩
    have hagsI : Hid (∀ h, h < si.hosts.length → ∃ av, ags[h]? = some av ∧ Sl wI wI.heap.size (some 2) 2 av ((Ls h).map replyV) ∧ (∀ c, c = bR ∨ c = bA ∨ c = bN ∨ c = bQ ∨ c = bW → NB av c) ∧ (Ls h).length ≤ j ∧ (∀ p ∈ Ls h, 1 ≤ p.id) ∧ Told (Ls h) (fun id => al.getD (13 * h + id.toNat) 0)) := fun h hh => by
     obtain ⟨av, g1, g2, g3, g4⟩ := hags10.out h hh
     exact ⟨av, g1, g2.via keyI g3 zI, fun c hc => by
      rcases hc with h | h | h | h | rfl
      ·exact g3 c (.inl h)
      ·exact g3 c (.inr (.inl h))
      ·exact g3 c (.inr (.inr (.inl h)))
      ·exact g3 c (.inr (.inr (.inr h)))
      ·exact g2.nb (by omega), g4⟩
    have h0Q : 0 ≤ bQ := Nat.zero_le _
    have h0W : 0 ≤ bW := Nat.zero_le _
    have b00 : Bl 0 w10 w10 := Bl.refl (Nat.zero_le _)
    have b01 : Bl 0 w10 wI := FR
    have TI : Hid (TBn (fun c => c = bR ∨ c = bA ∨ c = bN) wL wI) := tbn_via T10.out b01 keyI (fun c h1 h2 h3 => by
     rcases h3 with h | h | h | h
     ·exact h2 (.inl h)
     ·exact h2 (.inr (.inl h))
     ·exact h2 (.inr (.inr h))
     ·omega) zI
    clear b00 b01 h0Q h0W sa1 sa2 sa3 sI ka1 ka3 kQ2 kR10 kA10 kN10 kQ10 k510 k410 hB10 hBs keyI hags10 T10 AK A10 XK
    obtain ⟨a0, ha0⟩ : ∃ a0, al.getD (13 * hN + qI) 0 = a0 := ⟨_, rfl⟩
    have hkI : 13 * hN + qI < 13 * si.hosts.length := by have := hqIb.out; omega
    have hrd0 : (al.map aV)[13 * hN + qI]? = some (.int .u8 a0) := by
     rw [List.getElem?_map, ← ha0, List.getD_eq_getElem?_getD, List.getElem?_eq_getElem (by omega)]
     rfl
    have hm1 : IntKind.i64.wrap (13 * (hN : Int)) = ((13 * hN : Nat) : Int) := by have := hn20.out; rw [wrap_i64_id] <;> omega
    have hm2 : IntKind.i64.wrap (((13 * hN : Nat) : Int) + (qI : Int)) = ((13 * hN + qI : Nat) : Int) := by have := hn20.out; have := hqIb.out; rw [wrap_i64_id] <;> omega
    have hxl : xj.hosts.length = si.hosts.length := (valid_parts hvalj).2.2.1
    obtain ⟨an, han⟩ : ∃ an, ansI si (sl.map (·.x)) xj ⟨qI, q1, ⟨qk, hN, qs, qv⟩⟩ (now + late) = an := ⟨_, rfl⟩
    obtain ⟨aw, haw⟩ : ∃ aw, applyW si (sl.map (·.x)) xj ⟨qk, hN, qs, qv⟩ = aw := ⟨_, rfl⟩
    obtain ⟨ae, hae⟩ : ∃ ae, applyE si (sl.map (·.x)) xj ⟨qk, hN, qs, qv⟩ = ae := ⟨_, rfl⟩
    obtain ⟨wt, hwt⟩ : ∃ wt, (if an = 1 ∧ a0 = 0 then aw else xj) = wt := ⟨_, rfl⟩
    obtain ⟨fs, hfs⟩ : ∃ fs, (if a0 = 0 then an else a0) = fs := ⟨_, rfl⟩
    have hon := once_r (a := fun id => al.getD (13 * hN + id.toNat) 0) (r := ⟨qI, q1, ⟨qk, hN, qs, qv⟩⟩) (now := now + late) hvalj hqb.out (by have := hqIb.out; simp only; omega) hq1b.out (by have := hlat.out; omega) (by omega) htold hpos
    simp only [Int.toNat_natCast, ha0, han, haw, hwt, hfs] at hon
    replace hon : Hid _ := hon
    have XKI := (XI.sk (Nat.le_refl _)).2.2.2.2
    have bbI : Bl wI.heap.size wI wI := Bl.refl (Nat.le_refl _)
    have rI : Ext wI wI := Ext.refl _
    have hansw : Hid (∀ w', Bl wI.heap.size wI w' → Ret Tryz.prog 22 #[.agg (siteC u si).toArray, .agg #[wv], .agg #[hvj, rvj], requestV ⟨qI, q1, ⟨qk, hN, qs, qv⟩⟩, intV (now + late)] w' (.int .u8 an)) := fun w' hb => by
     have hb2 : Bl B w w' := ⟨hB, hBI.2.trans (hb.2.mono hBIs)⟩
     have := ref26Answer (r := ⟨qI, q1, ⟨qk, hN, qs, qv⟩⟩) (now := now + late) (B := wI.heap.size) hb.size ((hS w' hb2).up hBIs) ((hW w' hb2).up hBIs) (XKI w' hb) (by simp only; omega)
     rwa [han] at this
    refine wpd_join (I := fun g' w' => (g' 3 = lv ∧ g' 4 = .pointer (some ⟨b4, 0, none⟩) ∧ g' 5 = .pointer (some ⟨b5, 0, none⟩) ∧ g' 9 = .pointer (some ⟨bR, 0, none⟩) ∧ g' 11 = .slice (some ⟨bN, 0, none⟩) (13 * si.hosts.length) (13 * si.hosts.length) ∧ g' 12 = .int .i64 j ∧ g' 13 = .pointer (some ⟨bQ, 0, none⟩) ∧ g' 14 = .int .i64 hN ∧ g' 17 = .pointer (some ⟨bW, 0, none⟩)) ∧
      Hid (∃ hT rT, Blk w' bW 36 [hT, rT] ∧ WorldR w' w'.heap.size hT rT wt ∧ TBn (fun c => c = bW) wI w')) (fun _ _ h => h) ?_ ?_
    ·obtain ⟨d1, hd⟩ : ∃ d, (an == 1) = d := ⟨_, rfl⟩
     cases d1
     ·have hne : ¬ (an = 1 ∧ a0 = 0) := fun h => by rw [h.1] at hd; cases hd
      rw [if_neg hne] at hwt
      clear hne
      unfold wpdH
      refine wpd_rel 23 (fun iI v w9 => match iI with
       | 0 => v = .agg (siteC u si).toArray
       | 1 => v = .agg #[wv]
       | 2 => v = .pointer (some ⟨bR, 0, none⟩)
       | 3 => v = .pointer (some ⟨bR, 0, none⟩)
       | 4 => v = .pointer (some ⟨bR, 8, none⟩)
       | 5 => v = .agg #[hvj, rvj]
       | 6 => v = requestV ⟨qI, q1, ⟨qk, hN, qs, qv⟩⟩
       | 7 => v = .pointer (some ⟨bR, 0, none⟩)
       | 8 => v = .pointer (some ⟨bR, 0, none⟩)
       | 9 => v = .pointer (some ⟨bR, 11, none⟩)
       | 10 => v = intV (now + late)
       | 11 => v = .int .u8 an
       | 12 => v = .bool false
       | 13 => v = .bool false
       | 14 => v = undef
       | 15 => v = undef
       | 16 => v = undef
       | 17 => v = undef
       | 18 => v = undef
       | 19 => v = undef
       | 20 => v = undef
       | 21 => v = undef
       | 22 => v = undef
       | _ => False) KR KR KR ?_ ?_ ?_
      ·intro iI v w1 w2 hR hx9
       match iI, hR with
       | 0, h => exact h
       | 1, h => exact h
       | 2, h => exact h
       | 3, h => exact h
       | 4, h => exact h
       | 5, h => exact h
       | 6, h => exact h
       | 7, h => exact h
       | 8, h => exact h
       | 9, h => exact h
       | 10, h => exact h
       | 11, h => exact h
       | 12, h => exact h
       | 13, h => exact h
       | 14, h => exact h
       | 15, h => exact h
       | 16, h => exact h
       | 17, h => exact h
       | 18, h => exact h
       | 19, h => exact h
       | 20, h => exact h
       | 21, h => exact h
       | 22, h => exact h
      ·intro iI oO hi ho gF w9 hx9 hdep hag
       have s9 := hx9.st
       have n9 : Now w9 := trivial
       have r9 := Ext.refl w9
       have z9 := hx9.size
       rcases iI with _|_|_|_|_|_|_|_|_|_|_|_|_|_|_|_|_|_|_|_|_|_|_|iI
       have e := Option.some.inj ho
       subst e
       have a4 := hag.at 4 KR
       simp only [S5, ↓reduceIte, Nat.reduceEqDiff, initF, *] at a4
       clear hag hdep ho
       refine relStep_off rfl ?_
       rotate_left
       have e := Option.some.inj ho
       subst e
       have a5 := hag.at 5 KR
       simp only [S5, ↓reduceIte, Nat.reduceEqDiff, initF, *] at a5
       clear hag hdep ho
       refine relStep_off rfl ?_
       rotate_left
       have e := Option.some.inj ho
       subst e
       have a9 := hag.at 9 KR
       simp only [S5, ↓reduceIte, Nat.reduceEqDiff, initF, *] at a9
       clear hag hdep ho
       refine relStep_off rfl ?_
       rotate_left
       have e := Option.some.inj ho
       subst e
       have d2 : (gF 117) = .pointer (some ⟨bR, 0, none⟩) := hdep ⟨2, .data⟩ (by simp) rfl _ _ rfl rfl
       clear hag hdep ho
       refine relStep_off rfl ?_
       rotate_left
       have e := Option.some.inj ho
       subst e
       have d3 : (gF 118) = .pointer (some ⟨bR, 0, none⟩) := hdep ⟨3, .data⟩ (by simp) rfl _ _ rfl rfl
       clear hag hdep ho
       refine relStep_off rfl ?_
       rotate_left
       have e := Option.some.inj ho
       subst e
       have d4 : (gF 119) = .pointer (some ⟨bR, 8, none⟩) := hdep ⟨4, .data⟩ (by simp) rfl _ _ rfl rfl
       clear hag hdep ho
       refine relStep_off rfl ?_
       rotate_left
       have e := Option.some.inj ho
       subst e
       have a13 := hag.at 13 KR
       simp only [S5, ↓reduceIte, Nat.reduceEqDiff, initF, *] at a13
       clear hag hdep ho
       refine relStep_off rfl ?_
       rotate_left
       have e := Option.some.inj ho
       subst e
       have a9 := hag.at 9 KR
       simp only [S5, ↓reduceIte, Nat.reduceEqDiff, initF, *] at a9
       clear hag hdep ho
       refine relStep_off rfl ?_
       rotate_left
       have e := Option.some.inj ho
       subst e
       have d7 : (gF 122) = .pointer (some ⟨bR, 0, none⟩) := hdep ⟨7, .data⟩ (by simp) rfl _ _ rfl rfl
       clear hag hdep ho
       refine relStep_off rfl ?_
       rotate_left
       have e := Option.some.inj ho
       subst e
       have d8 : (gF 123) = .pointer (some ⟨bR, 0, none⟩) := hdep ⟨8, .data⟩ (by simp) rfl _ _ rfl rfl
       clear hag hdep ho
       refine relStep_off rfl ?_
       rotate_left
       have e := Option.some.inj ho
       subst e
       have d9 : (gF 124) = .pointer (some ⟨bR, 11, none⟩) := hdep ⟨9, .data⟩ (by simp) rfl _ _ rfl rfl
       clear hag hdep ho
       refine relStep_off rfl ?_
       rotate_left
       have e := Option.some.inj ho
       subst e
       have d0 : (gF 115) = .agg (siteC u si).toArray := hdep ⟨0, .data⟩ (by simp) rfl _ _ rfl rfl
       have d1 : (gF 116) = .agg #[wv] := hdep ⟨1, .data⟩ (by simp) rfl _ _ rfl rfl
       have d5 : (gF 120) = .agg #[hvj, rvj] := hdep ⟨5, .data⟩ (by simp) rfl _ _ rfl rfl
       have d6 : (gF 121) = requestV ⟨qI, q1, ⟨qk, hN, qs, qv⟩⟩ := hdep ⟨6, .data⟩ (by simp) rfl _ _ rfl rfl
       have d10 : (gF 125) = intV (now + late) := hdep ⟨10, .data⟩ (by simp) rfl _ _ rfl rfl
       clear hag hdep ho
       refine relStep_off rfl ?_
       rotate_left
       have e := Option.some.inj ho
       subst e
       have d11 : (gF 126) = .int .u8 an := hdep ⟨11, .data⟩ (by simp) rfl _ _ rfl rfl
       clear hag hdep ho
       refine relStep_off rfl ?_
       rotate_left
       have e := Option.some.inj ho
       subst e
       have d12 : (gF 127) = .bool false := hdep ⟨12, .data⟩ (by simp) rfl _ _ rfl rfl
       clear hag hdep ho
       refine relStep_off rfl ?_
       rotate_left
       ·have e := Option.some.inj ho
        subst e
        have a11 := hag.at 11 KR
        simp only [S5, ↓reduceIte, Nat.reduceEqDiff, initF, *] at a11
        have d13 : (gF 128) = .bool false := hdep ⟨13, .guard⟩ (by simp) rfl _ _ rfl rfl
        clear hag hdep ho
        exact relStep_skip (j := 13) (want := true) (t := 128) rfl rfl (by rw [d13]; simp [boolOf, undef]) ⟨Ext.refl _, rfl⟩
       ·have e := Option.some.inj ho
        subst e
        have a14 := hag.at 14 KR
        simp only [S5, ↓reduceIte, Nat.reduceEqDiff, initF, *] at a14
        have d13 : (gF 128) = .bool false := hdep ⟨13, .guard⟩ (by simp) rfl _ _ rfl rfl
        clear hag hdep ho
        exact relStep_skip (j := 13) (want := true) (t := 128) rfl rfl (by rw [d13]; simp [boolOf, undef]) ⟨Ext.refl _, rfl⟩
       ·have e := Option.some.inj ho
        subst e
        have d15 : (gF 130) = undef := hdep ⟨15, .data⟩ (by simp) rfl _ _ rfl rfl
        have d13 : (gF 128) = .bool false := hdep ⟨13, .guard⟩ (by simp) rfl _ _ rfl rfl
        clear hag hdep ho
        exact relStep_skip (j := 13) (want := true) (t := 128) rfl rfl (by rw [d13]; simp [boolOf, undef]) ⟨Ext.refl _, rfl⟩
       ·have e := Option.some.inj ho
        subst e
        have a13 := hag.at 13 KR
        simp only [S5, ↓reduceIte, Nat.reduceEqDiff, initF, *] at a13
        have d13 : (gF 128) = .bool false := hdep ⟨13, .guard⟩ (by simp) rfl _ _ rfl rfl
        clear hag hdep ho
        exact relStep_skip (j := 13) (want := true) (t := 128) rfl rfl (by rw [d13]; simp [boolOf, undef]) ⟨Ext.refl _, rfl⟩
       ·have e := Option.some.inj ho
        subst e
        have d17 : (gF 132) = undef := hdep ⟨17, .data⟩ (by simp) rfl _ _ rfl rfl
        have d13 : (gF 128) = .bool false := hdep ⟨13, .guard⟩ (by simp) rfl _ _ rfl rfl
        clear hag hdep ho
        exact relStep_skip (j := 13) (want := true) (t := 128) rfl rfl (by rw [d13]; simp [boolOf, undef]) ⟨Ext.refl _, rfl⟩
       ·have e := Option.some.inj ho
        subst e
        have d16 : (gF 131) = undef := hdep ⟨16, .data⟩ (by simp) rfl _ _ rfl rfl
        have d18 : (gF 133) = undef := hdep ⟨18, .data⟩ (by simp) rfl _ _ rfl rfl
        have d13 : (gF 128) = .bool false := hdep ⟨13, .guard⟩ (by simp) rfl _ _ rfl rfl
        clear hag hdep ho
        exact relStep_skip (j := 13) (want := true) (t := 128) rfl rfl (by rw [d13]; simp [boolOf, undef]) ⟨Ext.refl _, rfl⟩
       ·have e := Option.some.inj ho
        subst e
        have d14 : (gF 129) = undef := hdep ⟨14, .data⟩ (by simp) rfl _ _ rfl rfl
        have d19 : (gF 134) = undef := hdep ⟨19, .data⟩ (by simp) rfl _ _ rfl rfl
        have d13 : (gF 128) = .bool false := hdep ⟨13, .guard⟩ (by simp) rfl _ _ rfl rfl
        clear hag hdep ho
        exact relStep_skip (j := 13) (want := true) (t := 128) rfl rfl (by rw [d13]; simp [boolOf, undef]) ⟨Ext.refl _, rfl⟩
       ·have e := Option.some.inj ho
        subst e
        have d20 : (gF 135) = undef := hdep ⟨20, .data⟩ (by simp) rfl _ _ rfl rfl
        have d13 : (gF 128) = .bool false := hdep ⟨13, .guard⟩ (by simp) rfl _ _ rfl rfl
        clear hag hdep ho
        exact relStep_skip (j := 13) (want := true) (t := 128) rfl rfl (by rw [d13]; simp [boolOf, undef]) ⟨Ext.refl _, rfl⟩
       ·have e := Option.some.inj ho
        subst e
        have d21 : (gF 136) = undef := hdep ⟨21, .data⟩ (by simp) rfl _ _ rfl rfl
        have d13 : (gF 128) = .bool false := hdep ⟨13, .guard⟩ (by simp) rfl _ _ rfl rfl
        clear hag hdep ho
        exact relStep_skip (j := 13) (want := true) (t := 128) rfl rfl (by rw [d13]; simp [boolOf, undef]) ⟨Ext.refl _, rfl⟩
       ·omega
       all_goals (repeat' first
  | ((with_reducible refine at_row ?_); refine row1_a fun _ _ _ _ _ _ _ => ?_)
  | with_reducible first | (first | apply alloc_k | apply row_k); intro _ _ _ _ _ _ | (first | apply fork | apply forkp) <;> intro _ | refine forke (fun _ => ?_) fun _ _ => ?_ | refine tail_k fun _ _ _ => ?_ | refine ext_k fun _ _ _ => ?_ | refine need_a ?_ | refine st_agg KR rfl ON fun _ _ _ _ => ?_ | refine wpd_q_a ?_
  | ((with_reducible refine at_f 22 ?_); refine ret_k (hansw.out _ FR) fun _ _ _ => ?_)
  | simp (maxDischargeDepth := 3) only [↓X, ↓Y, ↓Q, S1, ↓reduceIte, Nat.reduceEqDiff, Nat.reduceAdd, Int.reduceLT, Int.reduceLE, Int.reduceNeg, Int.reduceBEq, Int.reduceBNe, Int.reduceEq, Nat.reduceLeDiff, Nat.reduceMul, Nat.reduceLT, *, siteC, requestV, requestC, hd]
  | simp (singlePass := true) (maxDischargeDepth := 99) only [*, S2, Nat.reduceLT, siteC, requestV, requestC, hd])
      ·intro g9 w9 hx9 hR hag
       have s9 := hx9.st
       have n9 : Now w9 := trivial
       have r9 := Ext.refl w9
       have z9 := hx9.size
       have d13 : (g9 128) = .bool false := hR 13 _ _ (by decide) rfl rfl
       have d22 : (g9 137) = undef := hR 22 _ _ (by decide) rfl rfl
       have a3 := hag.at 3 KR
       have a4 := hag.at 4 KR
       have a5 := hag.at 5 KR
       have a9 := hag.at 9 KR
       have a11 := hag.at 11 KR
       have a12 := hag.at 12 KR
       have a13 := hag.at 13 KR
       have a14 := hag.at 14 KR
       have a17 := hag.at 17 KR
       simp only [S5, ↓reduceIte, Nat.reduceEqDiff, initF, *] at a3 a4 a5 a9 a11 a12 a13 a14 a17
       clear hag hR
       simp only [List.drop_succ_cons, List.drop_zero]
       (repeat' first
  | ((with_reducible refine at_row ?_); refine row1_a fun _ _ _ _ _ _ _ => ?_)
  | with_reducible first | (first | apply alloc_k | apply row_k); intro _ _ _ _ _ _ | (first | apply fork | apply forkp) <;> intro _ | refine forke (fun _ => ?_) fun _ _ => ?_ | refine tail_k fun _ _ _ => ?_ | refine ext_k fun _ _ _ => ?_ | refine need_a ?_ | refine st_agg KR rfl ON fun _ _ _ _ => ?_ | refine wpd_q_a ?_
  | simp (maxDischargeDepth := 3) only [↓X, ↓Y, ↓Q, S1, ↓reduceIte, Nat.reduceEqDiff, Nat.reduceAdd, Int.reduceLT, Int.reduceLE, Int.reduceNeg, Int.reduceBEq, Int.reduceBNe, Int.reduceEq, Nat.reduceLeDiff, Nat.reduceMul, Nat.reduceLT, *]
  | simp (singlePass := true) (maxDischargeDepth := 99) only [*, S2, Nat.reduceLT])
       have e9 : Ext wI w9 := FR
       exact ⟨hvj, rvj, (kW.2.1 wI kW.2.2.1).ext e9, by rw [← hwt]; exact ⟨(XI.1.ext e9 (Nat.le_refl _)).more e9.size, (XI.2.ext e9 (Nat.le_refl _)).more e9.size⟩, TBn.of_ext e9⟩
     ·have ha1 : an = 1 := by simpa using hd
      have hnat13 : ((13 * hN + qI : Nat) : Int) < ((13 * si.hosts.length : Nat) : Int) := by omega
      unfold wpdH
      refine wpd_rel 23 (fun iI v w9 => match iI with
       | 0 => v = .agg (siteC u si).toArray
       | 1 => v = .agg #[wv]
       | 2 => v = .pointer (some ⟨bR, 0, none⟩)
       | 3 => v = .pointer (some ⟨bR, 0, none⟩)
       | 4 => v = .pointer (some ⟨bR, 8, none⟩)
       | 5 => v = .agg #[hvj, rvj]
       | 6 => v = requestV ⟨qI, q1, ⟨qk, hN, qs, qv⟩⟩
       | 7 => v = .pointer (some ⟨bR, 0, none⟩)
       | 8 => v = .pointer (some ⟨bR, 0, none⟩)
       | 9 => v = .pointer (some ⟨bR, 11, none⟩)
       | 10 => v = intV (now + late)
       | 11 => v = .int .u8 an
       | 12 => v = .bool true
       | 13 => v = .bool true
       | 14 => v = .slice (some ⟨bN, 0, none⟩) (13 * si.hosts.length) (13 * si.hosts.length)
       | 15 => v = .int .i64 hN
       | 16 => v = .int .i64 ((13 * hN : Nat) : Int)
       | 17 => v = .pointer (some ⟨bQ, 0, none⟩)
       | 18 => v = .int .i64 qI
       | 19 => v = .int .i64 ((13 * hN + qI : Nat) : Int)
       | 20 => v = .pointer (some ⟨bN, 13 * hN + qI, none⟩)
       | 21 => v = .int .u8 a0
       | 22 => v = .bool (a0 == 0)
       | _ => False) KR KR KR ?_ ?_ ?_
      ·intro iI v w1 w2 hR hx9
       match iI, hR with
       | 0, h => exact h
       | 1, h => exact h
       | 2, h => exact h
       | 3, h => exact h
       | 4, h => exact h
       | 5, h => exact h
       | 6, h => exact h
       | 7, h => exact h
       | 8, h => exact h
       | 9, h => exact h
       | 10, h => exact h
       | 11, h => exact h
       | 12, h => exact h
       | 13, h => exact h
       | 14, h => exact h
       | 15, h => exact h
       | 16, h => exact h
       | 17, h => exact h
       | 18, h => exact h
       | 19, h => exact h
       | 20, h => exact h
       | 21, h => exact h
       | 22, h => exact h
      ·intro iI oO hi ho gF w9 hx9 hdep hag
       have s9 := hx9.st
       have n9 : Now w9 := trivial
       have r9 := Ext.refl w9
       have z9 := hx9.size
       rcases iI with _|_|_|_|_|_|_|_|_|_|_|_|_|_|_|_|_|_|_|_|_|_|_|iI
       have e := Option.some.inj ho
       subst e
       have a4 := hag.at 4 KR
       simp only [S5, ↓reduceIte, Nat.reduceEqDiff, initF, *] at a4
       clear hag hdep ho
       refine relStep_off rfl ?_
       rotate_left
       have e := Option.some.inj ho
       subst e
       have a5 := hag.at 5 KR
       simp only [S5, ↓reduceIte, Nat.reduceEqDiff, initF, *] at a5
       clear hag hdep ho
       refine relStep_off rfl ?_
       rotate_left
       have e := Option.some.inj ho
       subst e
       have a9 := hag.at 9 KR
       simp only [S5, ↓reduceIte, Nat.reduceEqDiff, initF, *] at a9
       clear hag hdep ho
       refine relStep_off rfl ?_
       rotate_left
       have e := Option.some.inj ho
       subst e
       have d2 : (gF 117) = .pointer (some ⟨bR, 0, none⟩) := hdep ⟨2, .data⟩ (by simp) rfl _ _ rfl rfl
       clear hag hdep ho
       refine relStep_off rfl ?_
       rotate_left
       have e := Option.some.inj ho
       subst e
       have d3 : (gF 118) = .pointer (some ⟨bR, 0, none⟩) := hdep ⟨3, .data⟩ (by simp) rfl _ _ rfl rfl
       clear hag hdep ho
       refine relStep_off rfl ?_
       rotate_left
       have e := Option.some.inj ho
       subst e
       have d4 : (gF 119) = .pointer (some ⟨bR, 8, none⟩) := hdep ⟨4, .data⟩ (by simp) rfl _ _ rfl rfl
       clear hag hdep ho
       refine relStep_off rfl ?_
       rotate_left
       have e := Option.some.inj ho
       subst e
       have a13 := hag.at 13 KR
       simp only [S5, ↓reduceIte, Nat.reduceEqDiff, initF, *] at a13
       clear hag hdep ho
       refine relStep_off rfl ?_
       rotate_left
       have e := Option.some.inj ho
       subst e
       have a9 := hag.at 9 KR
       simp only [S5, ↓reduceIte, Nat.reduceEqDiff, initF, *] at a9
       clear hag hdep ho
       refine relStep_off rfl ?_
       rotate_left
       have e := Option.some.inj ho
       subst e
       have d7 : (gF 122) = .pointer (some ⟨bR, 0, none⟩) := hdep ⟨7, .data⟩ (by simp) rfl _ _ rfl rfl
       clear hag hdep ho
       refine relStep_off rfl ?_
       rotate_left
       have e := Option.some.inj ho
       subst e
       have d8 : (gF 123) = .pointer (some ⟨bR, 0, none⟩) := hdep ⟨8, .data⟩ (by simp) rfl _ _ rfl rfl
       clear hag hdep ho
       refine relStep_off rfl ?_
       rotate_left
       have e := Option.some.inj ho
       subst e
       have d9 : (gF 124) = .pointer (some ⟨bR, 11, none⟩) := hdep ⟨9, .data⟩ (by simp) rfl _ _ rfl rfl
       clear hag hdep ho
       refine relStep_off rfl ?_
       rotate_left
       have e := Option.some.inj ho
       subst e
       have d0 : (gF 115) = .agg (siteC u si).toArray := hdep ⟨0, .data⟩ (by simp) rfl _ _ rfl rfl
       have d1 : (gF 116) = .agg #[wv] := hdep ⟨1, .data⟩ (by simp) rfl _ _ rfl rfl
       have d5 : (gF 120) = .agg #[hvj, rvj] := hdep ⟨5, .data⟩ (by simp) rfl _ _ rfl rfl
       have d6 : (gF 121) = requestV ⟨qI, q1, ⟨qk, hN, qs, qv⟩⟩ := hdep ⟨6, .data⟩ (by simp) rfl _ _ rfl rfl
       have d10 : (gF 125) = intV (now + late) := hdep ⟨10, .data⟩ (by simp) rfl _ _ rfl rfl
       clear hag hdep ho
       refine relStep_off rfl ?_
       rotate_left
       have e := Option.some.inj ho
       subst e
       have d11 : (gF 126) = .int .u8 an := hdep ⟨11, .data⟩ (by simp) rfl _ _ rfl rfl
       clear hag hdep ho
       refine relStep_off rfl ?_
       rotate_left
       have e := Option.some.inj ho
       subst e
       have d12 : (gF 127) = .bool true := hdep ⟨12, .data⟩ (by simp) rfl _ _ rfl rfl
       clear hag hdep ho
       refine relStep_off rfl ?_
       rotate_left
       have e := Option.some.inj ho
       subst e
       have a11 := hag.at 11 KR
       simp only [S5, ↓reduceIte, Nat.reduceEqDiff, initF, *] at a11
       have d13 : (gF 128) = .bool true := hdep ⟨13, .guard⟩ (by simp) rfl _ _ rfl rfl
       clear hag hdep ho
       refine relStep_on (j := 13) (want := true) (t := 128) rfl rfl (by rw [d13]; rfl) ?_
       rotate_left
       have e := Option.some.inj ho
       subst e
       have a14 := hag.at 14 KR
       simp only [S5, ↓reduceIte, Nat.reduceEqDiff, initF, *] at a14
       have d13 : (gF 128) = .bool true := hdep ⟨13, .guard⟩ (by simp) rfl _ _ rfl rfl
       clear hag hdep ho
       refine relStep_on (j := 13) (want := true) (t := 128) rfl rfl (by rw [d13]; rfl) ?_
       rotate_left
       have e := Option.some.inj ho
       subst e
       have d15 : (gF 130) = .int .i64 hN := hdep ⟨15, .data⟩ (by simp) rfl _ _ rfl rfl
       have d13 : (gF 128) = .bool true := hdep ⟨13, .guard⟩ (by simp) rfl _ _ rfl rfl
       clear hag hdep ho
       refine relStep_on (j := 13) (want := true) (t := 128) rfl rfl (by rw [d13]; rfl) ?_
       rotate_left
       have e := Option.some.inj ho
       subst e
       have a13 := hag.at 13 KR
       simp only [S5, ↓reduceIte, Nat.reduceEqDiff, initF, *] at a13
       have d13 : (gF 128) = .bool true := hdep ⟨13, .guard⟩ (by simp) rfl _ _ rfl rfl
       clear hag hdep ho
       refine relStep_on (j := 13) (want := true) (t := 128) rfl rfl (by rw [d13]; rfl) ?_
       rotate_left
       have e := Option.some.inj ho
       subst e
       have d17 : (gF 132) = .pointer (some ⟨bQ, 0, none⟩) := hdep ⟨17, .data⟩ (by simp) rfl _ _ rfl rfl
       have d13 : (gF 128) = .bool true := hdep ⟨13, .guard⟩ (by simp) rfl _ _ rfl rfl
       clear hag hdep ho
       refine relStep_on (j := 13) (want := true) (t := 128) rfl rfl (by rw [d13]; rfl) ?_
       rotate_left
       have e := Option.some.inj ho
       subst e
       have d16 : (gF 131) = .int .i64 ((13 * hN : Nat) : Int) := hdep ⟨16, .data⟩ (by simp) rfl _ _ rfl rfl
       have d18 : (gF 133) = .int .i64 qI := hdep ⟨18, .data⟩ (by simp) rfl _ _ rfl rfl
       have d13 : (gF 128) = .bool true := hdep ⟨13, .guard⟩ (by simp) rfl _ _ rfl rfl
       clear hag hdep ho
       refine relStep_on (j := 13) (want := true) (t := 128) rfl rfl (by rw [d13]; rfl) ?_
       rotate_left
       have e := Option.some.inj ho
       subst e
       have d14 : (gF 129) = .slice (some ⟨bN, 0, none⟩) (13 * si.hosts.length) (13 * si.hosts.length) := hdep ⟨14, .data⟩ (by simp) rfl _ _ rfl rfl
       have d19 : (gF 134) = .int .i64 ((13 * hN + qI : Nat) : Int) := hdep ⟨19, .data⟩ (by simp) rfl _ _ rfl rfl
       have d13 : (gF 128) = .bool true := hdep ⟨13, .guard⟩ (by simp) rfl _ _ rfl rfl
       clear hag hdep ho
       refine relStep_on (j := 13) (want := true) (t := 128) rfl rfl (by rw [d13]; rfl) ?_
       rotate_left
       have e := Option.some.inj ho
       subst e
       have d20 : (gF 135) = .pointer (some ⟨bN, 13 * hN + qI, none⟩) := hdep ⟨20, .data⟩ (by simp) rfl _ _ rfl rfl
       have d13 : (gF 128) = .bool true := hdep ⟨13, .guard⟩ (by simp) rfl _ _ rfl rfl
       clear hag hdep ho
       refine relStep_on (j := 13) (want := true) (t := 128) rfl rfl (by rw [d13]; rfl) ?_
       rotate_left
       have e := Option.some.inj ho
       subst e
       have d21 : (gF 136) = .int .u8 a0 := hdep ⟨21, .data⟩ (by simp) rfl _ _ rfl rfl
       have d13 : (gF 128) = .bool true := hdep ⟨13, .guard⟩ (by simp) rfl _ _ rfl rfl
       clear hag hdep ho
       refine relStep_on (j := 13) (want := true) (t := 128) rfl rfl (by rw [d13]; rfl) ?_
       rotate_left
       ·omega
       all_goals (repeat' first
  | ((with_reducible refine at_row ?_); refine row1_a fun _ _ _ _ _ _ _ => ?_)
  | with_reducible first | (first | apply alloc_k | apply row_k); intro _ _ _ _ _ _ | (first | apply fork | apply forkp) <;> intro _ | refine forke (fun _ => ?_) fun _ _ => ?_ | refine tail_k fun _ _ _ => ?_ | refine ext_k fun _ _ _ => ?_ | refine need_a ?_ | refine st_agg KR rfl ON fun _ _ _ _ => ?_ | refine wpd_q_a ?_
  | ((with_reducible refine at_f 22 ?_); refine ret_k (hansw.out _ FR) fun _ _ _ => ?_)
  | simp (maxDischargeDepth := 3) only [↓X, ↓Y, ↓Q, S1, ↓reduceIte, Nat.reduceEqDiff, Nat.reduceAdd, Int.reduceLT, Int.reduceLE, Int.reduceNeg, Int.reduceBEq, Int.reduceBNe, Int.reduceEq, Nat.reduceLeDiff, Nat.reduceMul, Nat.reduceLT, *, siteC, requestV, requestC, hd, hm1, hm2]
  | simp (singlePass := true) (maxDischargeDepth := 99) only [*, S2, Nat.reduceLT, siteC, requestV, requestC, hd, hm1, hm2])
      ·intro g9 w9 hx9 hR hag
       have s9 := hx9.st
       have n9 : Now w9 := trivial
       have r9 := Ext.refl w9
       have z9 := hx9.size
       have d13 : (g9 128) = .bool true := hR 13 _ _ (by decide) rfl rfl
       have d22 : (g9 137) = .bool (a0 == 0) := hR 22 _ _ (by decide) rfl rfl
       have a3 := hag.at 3 KR
       have a4 := hag.at 4 KR
       have a5 := hag.at 5 KR
       have a9 := hag.at 9 KR
       have a11 := hag.at 11 KR
       have a12 := hag.at 12 KR
       have a13 := hag.at 13 KR
       have a14 := hag.at 14 KR
       have a17 := hag.at 17 KR
       simp only [S5, ↓reduceIte, Nat.reduceEqDiff, initF, *] at a3 a4 a5 a9 a11 a12 a13 a14 a17
       clear hag hR
       simp only [List.drop_succ_cons, List.drop_zero]
       (repeat' first
  | ((with_reducible refine wpd_at 20 ?_); refine wpd_hold ?_)
  | ((with_reducible refine at_row ?_); refine row1_a fun _ _ _ _ _ _ _ => ?_)
  | with_reducible first | (first | apply alloc_k | apply row_k); intro _ _ _ _ _ _ | (first | apply fork | apply forkp) <;> intro _ | refine forke (fun _ => ?_) fun _ _ => ?_ | refine tail_k fun _ _ _ => ?_ | refine ext_k fun _ _ _ => ?_ | refine need_a ?_ | refine st_agg KR rfl ON fun _ _ _ _ => ?_ | refine wpd_q_a ?_
  | simp (maxDischargeDepth := 3) only [↓X, ↓Y, ↓Q, S1, ↓reduceIte, Nat.reduceEqDiff, Nat.reduceAdd, Int.reduceLT, Int.reduceLE, Int.reduceNeg, Int.reduceBEq, Int.reduceBNe, Int.reduceEq, Nat.reduceLeDiff, Nat.reduceMul, Nat.reduceLT, *]
  | simp (singlePass := true) (maxDischargeDepth := 99) only [*, S2, Nat.reduceLT])
       ·rename_i h0
        rw [if_pos ⟨ha1, h0⟩] at hwt
        subst hwt
        obtain ⟨wz, hwz⟩ : ∃ x, x = w9 := ⟨_, rfl⟩
        subst hwz
        have hWz : bW < wz.heap.size := FR
        unfold wpdH
        refine wpd_relA 10 (fun iI v w9 => match iI with
         | 0 => v = .agg (siteC u si).toArray
         | 1 => v = .agg #[wv]
         | 2 => v = .pointer (some ⟨bR, 0, none⟩)
         | 3 => v = .pointer (some ⟨bR, 0, none⟩)
         | 4 => v = .pointer (some ⟨bR, 8, none⟩)
         | 5 => v = .agg #[hvj, rvj]
         | 6 => v = .pointer (some ⟨bQ, 2, none⟩)
         | 7 => v = stepV ⟨qk, hN, qs, qv⟩
         | 8 => ∃ v0, v = .tuple #[v0, intV ae] ∧ OwnW wz.heap.size v0 w9 aw
         | 9 => ∃ v0, v = .tuple #[v0, intV ae] ∧ OwnW wz.heap.size v0 w9 aw
         | _ => False) KR KR KR ?_ ?_ ?_
        ·intro iI v w1 w2 hR hx9
         match iI, hR with
         | 0, h => exact h
         | 1, h => exact h
         | 2, h => exact h
         | 3, h => exact h
         | 4, h => exact h
         | 5, h => exact h
         | 6, h => exact h
         | 7, h => exact h
         | 8, h => exact (let ⟨a, e, o⟩ := h; ⟨a, e, o.ext hx9⟩)
         | 9, h => exact (let ⟨a, e, o⟩ := h; ⟨a, e, o.ext hx9⟩)
        ·intro iI oO hi ho gF w9 hx9 hdep hag
         have s9 := hx9.st
         have n9 : Now w9 := trivial
         have r9 := Ext.refl w9
         have z9 := hx9.size
         rcases iI with _|_|_|_|_|_|_|_|_|_|iI
         have e := Option.some.inj ho
         subst e
         have a4 := hag.at 4 KR
         simp only [S5, ↓reduceIte, Nat.reduceEqDiff, initF, *] at a4
         clear hag hdep ho
         refine relStep_off rfl ?_
         rotate_left
         have e := Option.some.inj ho
         subst e
         have a5 := hag.at 5 KR
         simp only [S5, ↓reduceIte, Nat.reduceEqDiff, initF, *] at a5
         clear hag hdep ho
         refine relStep_off rfl ?_
         rotate_left
         have e := Option.some.inj ho
         subst e
         have a9 := hag.at 9 KR
         simp only [S5, ↓reduceIte, Nat.reduceEqDiff, initF, *] at a9
         clear hag hdep ho
         refine relStep_off rfl ?_
         rotate_left
         have e := Option.some.inj ho
         subst e
         have d2 : (gF 142) = .pointer (some ⟨bR, 0, none⟩) := hdep ⟨2, .data⟩ (by simp) rfl _ _ rfl rfl
         clear hag hdep ho
         refine relStep_off rfl ?_
         rotate_left
         have e := Option.some.inj ho
         subst e
         have d3 : (gF 143) = .pointer (some ⟨bR, 0, none⟩) := hdep ⟨3, .data⟩ (by simp) rfl _ _ rfl rfl
         clear hag hdep ho
         refine relStep_off rfl ?_
         rotate_left
         have e := Option.some.inj ho
         subst e
         have d4 : (gF 144) = .pointer (some ⟨bR, 8, none⟩) := hdep ⟨4, .data⟩ (by simp) rfl _ _ rfl rfl
         clear hag hdep ho
         refine relStep_off rfl ?_
         rotate_left
         have e := Option.some.inj ho
         subst e
         have a13 := hag.at 13 KR
         simp only [S5, ↓reduceIte, Nat.reduceEqDiff, initF, *] at a13
         clear hag hdep ho
         refine relStep_off rfl ?_
         rotate_left
         have e := Option.some.inj ho
         subst e
         have d6 : (gF 146) = .pointer (some ⟨bQ, 2, none⟩) := hdep ⟨6, .data⟩ (by simp) rfl _ _ rfl rfl
         clear hag hdep ho
         refine relStep_off rfl ?_
         rotate_left
         ·have e := Option.some.inj ho
          subst e
          have d0 : (gF 140) = .agg (siteC u si).toArray := hdep ⟨0, .data⟩ (by simp) rfl _ _ rfl rfl
          have d1 : (gF 141) = .agg #[wv] := hdep ⟨1, .data⟩ (by simp) rfl _ _ rfl rfl
          have d5 : (gF 145) = .agg #[hvj, rvj] := hdep ⟨5, .data⟩ (by simp) rfl _ _ rfl rfl
          have d7 : (gF 147) = stepV ⟨qk, hN, qs, qv⟩ := hdep ⟨7, .data⟩ (by simp) rfl _ _ rfl rfl
          clear hag hdep ho
          refine relStep_off rfl ?_
          (repeat' first
  | ((with_reducible refine at_row ?_); refine row1_a fun _ _ _ _ _ _ _ => ?_)
  | with_reducible first | (first | apply alloc_k | apply row_k); intro _ _ _ _ _ _ | (first | apply fork | apply forkp) <;> intro _ | refine forke (fun _ => ?_) fun _ _ => ?_ | refine tail_k fun _ _ _ => ?_ | refine ext_k fun _ _ _ => ?_ | refine need_a ?_ | refine st_agg KR rfl ON fun _ _ _ _ => ?_ | refine wpd_q_a ?_
  | simp (maxDischargeDepth := 3) only [↓X, ↓Y, ↓Q, S1, ↓reduceIte, Nat.reduceEqDiff, Nat.reduceAdd, Int.reduceLT, Int.reduceLE, Int.reduceNeg, Int.reduceBEq, Int.reduceBNe, Int.reduceEq, Nat.reduceLeDiff, Nat.reduceMul, Nat.reduceLT, *, siteC, stepV, stepC]
  | simp (singlePass := true) (maxDischargeDepth := 99) only [*, S2, Nat.reduceLT, siteC, stepV, stepC])
          refine apply26 (st := ⟨qk, hN, qs, qv⟩) (hS _ FR) (hW _ FR) (XKI _ FR) z9 FR FR FR hae haw
         ·have e := Option.some.inj ho
          subst e
          have d8 : ∃ v0, (gF 148) = .tuple #[v0, intV ae] ∧ OwnW wz.heap.size v0 w9 aw := hdep ⟨8, .data⟩ (by simp) rfl _ _ rfl rfl
          clear hag hdep ho
          refine relStep_off rfl ?_
          (repeat' first
  | ((with_reducible refine at_row ?_); refine row1_a fun _ _ _ _ _ _ _ => ?_)
  | with_reducible first | (first | apply alloc_k | apply row_k); intro _ _ _ _ _ _ | (first | apply fork | apply forkp) <;> intro _ | refine forke (fun _ => ?_) fun _ _ => ?_ | refine tail_k fun _ _ _ => ?_ | refine ext_k fun _ _ _ => ?_ | refine need_a ?_ | refine st_agg KR rfl ON fun _ _ _ _ => ?_ | refine wpd_q_a ?_
  | simp (maxDischargeDepth := 3) only [↓X, ↓Y, ↓Q, S1, ↓reduceIte, Nat.reduceEqDiff, Nat.reduceAdd, Int.reduceLT, Int.reduceLE, Int.reduceNeg, Int.reduceBEq, Int.reduceBNe, Int.reduceEq, Nat.reduceLeDiff, Nat.reduceMul, Nat.reduceLT, *, siteC, stepV, stepC]
  | simp (singlePass := true) (maxDischargeDepth := 99) only [*, S2, Nat.reduceLT, siteC, stepV, stepC])
          exact d8
         ·omega
         all_goals (repeat' first
  | ((with_reducible refine at_row ?_); refine row1_a fun _ _ _ _ _ _ _ => ?_)
  | with_reducible first | (first | apply alloc_k | apply row_k); intro _ _ _ _ _ _ | (first | apply fork | apply forkp) <;> intro _ | refine forke (fun _ => ?_) fun _ _ => ?_ | refine tail_k fun _ _ _ => ?_ | refine ext_k fun _ _ _ => ?_ | refine need_a ?_ | refine st_agg KR rfl ON fun _ _ _ _ => ?_ | refine wpd_q_a ?_
  | simp (maxDischargeDepth := 3) only [↓X, ↓Y, ↓Q, S1, ↓reduceIte, Nat.reduceEqDiff, Nat.reduceAdd, Int.reduceLT, Int.reduceLE, Int.reduceNeg, Int.reduceBEq, Int.reduceBNe, Int.reduceEq, Nat.reduceLeDiff, Nat.reduceMul, Nat.reduceLT, *, siteC, stepV, stepC]
  | simp (singlePass := true) (maxDischargeDepth := 99) only [*, S2, Nat.reduceLT, siteC, stepV, stepC])
        ·intro g9 w9 hx9 hR hag
         have s9 := hx9.st
         have n9 : Now w9 := trivial
         have r9 := Ext.refl w9
         have z9 := hx9.size
         have d9 : ∃ v0, (g9 139) = .tuple #[v0, intV ae] ∧ OwnW wz.heap.size v0 w9 aw := hR 9 _ _ (by decide) rfl rfl
         obtain ⟨v6, e6, h7, r7, rfl, oh7, or7⟩ := d9
         have H7 := oh7.one
         have R7 := or7.one
         have HO := oh7.o
         have RO := or7.o
         have nH := oh7.far hWz
         have nR7 := or7.far hWz
         clear oh7 or7
         have a3 := hag.at 3 KR
         have a4 := hag.at 4 KR
         have a5 := hag.at 5 KR
         have a9 := hag.at 9 KR
         have a11 := hag.at 11 KR
         have a12 := hag.at 12 KR
         have a13 := hag.at 13 KR
         have a14 := hag.at 14 KR
         have a17 := hag.at 17 KR
         simp only [S5, ↓reduceIte, Nat.reduceEqDiff, initF, *] at a3 a4 a5 a9 a11 a12 a13 a14 a17
         clear hag hR
         have fin9 : ∀ we, Bk we bW 36 [h7, r7] → OwnH we wz.heap.size h7 aw.hosts → OwnP we wz.heap.size r7 aw.replicas → Bl 0 wI we → (∀ c, c < wI.heap.size → ¬ c = bW → Kp c wI we) → wI.heap.size ≤ we.heap.size → Hid (∃ hT rT, Blk we bW 36 [hT, rT] ∧ WorldR we we.heap.size hT rT aw ∧ TBn (fun c => c = bW) wI we) := fun we ke oH oR b01 hk hz => ⟨h7, r7, ke.2.1 we ke.2.2.1, ⟨oH.slN (f := stateC), oR.slN (f := replC)⟩, tbn_of b01 hk hz⟩
         have h0W : 0 ≤ bW := Nat.zero_le _
         have b00 : Bl 0 wI wI := Bl.refl (Nat.zero_le _)
         refine anyX_two (i := 10) (j := 11) (f := 2) KR KR rfl rfl (relStep_off rfl ?_) (relStep_off rfl ?_)
         ·(repeat' first
  | ((with_reducible refine at_row ?_); refine row1_a fun _ _ _ _ _ _ _ => ?_)
  | with_reducible first | (first | apply alloc_k | apply row_k); intro _ _ _ _ _ _ | (first | apply fork | apply forkp) <;> intro _ | refine forke (fun _ => ?_) fun _ _ => ?_ | refine tail_k fun _ _ _ => ?_ | refine ext_k fun _ _ _ => ?_ | refine need_a ?_ | refine st_agg KR rfl ON fun _ _ _ _ => ?_ | refine wpd_q_a ?_
  | simp (maxDischargeDepth := 3) only [↓X, ↓Y, ↓Q, S1, ↓reduceIte, Nat.reduceEqDiff, Nat.reduceAdd, Int.reduceLT, Int.reduceLE, Int.reduceNeg, Int.reduceBEq, Int.reduceBNe, Int.reduceEq, Nat.reduceLeDiff, Nat.reduceMul, Nat.reduceLT, *]
  | simp (singlePass := true) (maxDischargeDepth := 99) only [*, S2, Nat.reduceLT])
          refine anyX_two (i := 11) (j := 12) (f := 1) KR KR rfl rfl (relStep_off rfl ?_) (relStep_off rfl ?_)
          ·(repeat' first
  | ((with_reducible refine at_row ?_); refine row1_a fun _ _ _ _ _ _ _ => ?_)
  | with_reducible first | (first | apply alloc_k | apply row_k); intro _ _ _ _ _ _ | (first | apply fork | apply forkp) <;> intro _ | refine forke (fun _ => ?_) fun _ _ => ?_ | refine tail_k fun _ _ _ => ?_ | refine ext_k fun _ _ _ => ?_ | refine need_a ?_ | refine st_agg KR rfl ON fun _ _ _ _ => ?_ | refine wpd_q_a ?_
  | simp (maxDischargeDepth := 3) only [↓X, ↓Y, ↓Q, S1, ↓reduceIte, Nat.reduceEqDiff, Nat.reduceAdd, Int.reduceLT, Int.reduceLE, Int.reduceNeg, Int.reduceBEq, Int.reduceBNe, Int.reduceEq, Nat.reduceLeDiff, Nat.reduceMul, Nat.reduceLT, *]
  | simp (singlePass := true) (maxDischargeDepth := 99) only [*, S2, Nat.reduceLT])
           refine anyX_one (i := 12) (f := 0) KR KR rfl (relStep_off rfl ?_)
           (repeat' first
  | ((with_reducible refine at_row ?_); refine row1_a fun _ _ _ _ _ _ _ => ?_)
  | with_reducible first | (first | apply alloc_k | apply row_k); intro _ _ _ _ _ _ | (first | apply fork | apply forkp) <;> intro _ | refine forke (fun _ => ?_) fun _ _ => ?_ | refine tail_k fun _ _ _ => ?_ | refine ext_k fun _ _ _ => ?_ | refine need_a ?_ | refine st_agg KR rfl ON fun _ _ _ _ => ?_ | refine wpd_q_a ?_
  | simp (maxDischargeDepth := 3) only [↓X, ↓Y, ↓Q, S1, ↓reduceIte, Nat.reduceEqDiff, Nat.reduceAdd, Int.reduceLT, Int.reduceLE, Int.reduceNeg, Int.reduceBEq, Int.reduceBNe, Int.reduceEq, Nat.reduceLeDiff, Nat.reduceMul, Nat.reduceLT, *]
  | simp (singlePass := true) (maxDischargeDepth := 99) only [*, S2, Nat.reduceLT])
           rename_i we ne ke se
           refine anyX_end KR ?_
           (repeat' first
  | ((with_reducible refine at_row ?_); refine row1_a fun _ _ _ _ _ _ _ => ?_)
  | with_reducible first | (first | apply alloc_k | apply row_k); intro _ _ _ _ _ _ | (first | apply fork | apply forkp) <;> intro _ | refine forke (fun _ => ?_) fun _ _ => ?_ | refine tail_k fun _ _ _ => ?_ | refine ext_k fun _ _ _ => ?_ | refine need_a ?_ | refine st_agg KR rfl ON fun _ _ _ _ => ?_ | refine wpd_q_a ?_
  | simp (maxDischargeDepth := 3) only [↓X, ↓Y, ↓Q, S1, ↓reduceIte, Nat.reduceEqDiff, Nat.reduceAdd, Int.reduceLT, Int.reduceLE, Int.reduceNeg, Int.reduceBEq, Int.reduceBNe, Int.reduceEq, Nat.reduceLeDiff, Nat.reduceMul, Nat.reduceLT, *]
  | simp (singlePass := true) (maxDischargeDepth := 99) only [*, S2, Nat.reduceLT])
           exact fin9 _ ke (HO.1 _ FR) (RO.1 _ FR) FR (fun c h1 h2 => by
            have h3 : Kp c wI wI := ⟨h1, rfl⟩
            exact FR) FR
          ·(repeat' first
  | ((with_reducible refine at_row ?_); refine row1_a fun _ _ _ _ _ _ _ => ?_)
  | with_reducible first | (first | apply alloc_k | apply row_k); intro _ _ _ _ _ _ | (first | apply fork | apply forkp) <;> intro _ | refine forke (fun _ => ?_) fun _ _ => ?_ | refine tail_k fun _ _ _ => ?_ | refine ext_k fun _ _ _ => ?_ | refine need_a ?_ | refine st_agg KR rfl ON fun _ _ _ _ => ?_ | refine wpd_q_a ?_
  | simp (maxDischargeDepth := 3) only [↓X, ↓Y, ↓Q, S1, ↓reduceIte, Nat.reduceEqDiff, Nat.reduceAdd, Int.reduceLT, Int.reduceLE, Int.reduceNeg, Int.reduceBEq, Int.reduceBNe, Int.reduceEq, Nat.reduceLeDiff, Nat.reduceMul, Nat.reduceLT, *]
  | simp (singlePass := true) (maxDischargeDepth := 99) only [*, S2, Nat.reduceLT])
           rename_i we ne ke se
           refine anyX_one (i := 11) (f := 0) KR KR rfl (relStep_off rfl ?_)
           (repeat' first
  | ((with_reducible refine at_row ?_); refine row1_a fun _ _ _ _ _ _ _ => ?_)
  | with_reducible first | (first | apply alloc_k | apply row_k); intro _ _ _ _ _ _ | (first | apply fork | apply forkp) <;> intro _ | refine forke (fun _ => ?_) fun _ _ => ?_ | refine tail_k fun _ _ _ => ?_ | refine ext_k fun _ _ _ => ?_ | refine need_a ?_ | refine st_agg KR rfl ON fun _ _ _ _ => ?_ | refine wpd_q_a ?_
  | simp (maxDischargeDepth := 3) only [↓X, ↓Y, ↓Q, S1, ↓reduceIte, Nat.reduceEqDiff, Nat.reduceAdd, Int.reduceLT, Int.reduceLE, Int.reduceNeg, Int.reduceBEq, Int.reduceBNe, Int.reduceEq, Nat.reduceLeDiff, Nat.reduceMul, Nat.reduceLT, *]
  | simp (singlePass := true) (maxDischargeDepth := 99) only [*, S2, Nat.reduceLT])
           refine anyX_end KR ?_
           (repeat' first
  | ((with_reducible refine at_row ?_); refine row1_a fun _ _ _ _ _ _ _ => ?_)
  | with_reducible first | (first | apply alloc_k | apply row_k); intro _ _ _ _ _ _ | (first | apply fork | apply forkp) <;> intro _ | refine forke (fun _ => ?_) fun _ _ => ?_ | refine tail_k fun _ _ _ => ?_ | refine ext_k fun _ _ _ => ?_ | refine need_a ?_ | refine st_agg KR rfl ON fun _ _ _ _ => ?_ | refine wpd_q_a ?_
  | simp (maxDischargeDepth := 3) only [↓X, ↓Y, ↓Q, S1, ↓reduceIte, Nat.reduceEqDiff, Nat.reduceAdd, Int.reduceLT, Int.reduceLE, Int.reduceNeg, Int.reduceBEq, Int.reduceBNe, Int.reduceEq, Nat.reduceLeDiff, Nat.reduceMul, Nat.reduceLT, *]
  | simp (singlePass := true) (maxDischargeDepth := 99) only [*, S2, Nat.reduceLT])
           exact fin9 _ ke (HO.1 _ FR) (RO.1 _ FR) FR (fun c h1 h2 => by
            have h3 : Kp c wI wI := ⟨h1, rfl⟩
            exact FR) FR
         ·(repeat' first
  | ((with_reducible refine at_row ?_); refine row1_a fun _ _ _ _ _ _ _ => ?_)
  | with_reducible first | (first | apply alloc_k | apply row_k); intro _ _ _ _ _ _ | (first | apply fork | apply forkp) <;> intro _ | refine forke (fun _ => ?_) fun _ _ => ?_ | refine tail_k fun _ _ _ => ?_ | refine ext_k fun _ _ _ => ?_ | refine need_a ?_ | refine st_agg KR rfl ON fun _ _ _ _ => ?_ | refine wpd_q_a ?_
  | simp (maxDischargeDepth := 3) only [↓X, ↓Y, ↓Q, S1, ↓reduceIte, Nat.reduceEqDiff, Nat.reduceAdd, Int.reduceLT, Int.reduceLE, Int.reduceNeg, Int.reduceBEq, Int.reduceBNe, Int.reduceEq, Nat.reduceLeDiff, Nat.reduceMul, Nat.reduceLT, *]
  | simp (singlePass := true) (maxDischargeDepth := 99) only [*, S2, Nat.reduceLT])
          refine anyX_one (i := 10) (f := 1) KR KR rfl (relStep_off rfl ?_)
          (repeat' first
  | ((with_reducible refine at_row ?_); refine row1_a fun _ _ _ _ _ _ _ => ?_)
  | with_reducible first | (first | apply alloc_k | apply row_k); intro _ _ _ _ _ _ | (first | apply fork | apply forkp) <;> intro _ | refine forke (fun _ => ?_) fun _ _ => ?_ | refine tail_k fun _ _ _ => ?_ | refine ext_k fun _ _ _ => ?_ | refine need_a ?_ | refine st_agg KR rfl ON fun _ _ _ _ => ?_ | refine wpd_q_a ?_
  | simp (maxDischargeDepth := 3) only [↓X, ↓Y, ↓Q, S1, ↓reduceIte, Nat.reduceEqDiff, Nat.reduceAdd, Int.reduceLT, Int.reduceLE, Int.reduceNeg, Int.reduceBEq, Int.reduceBNe, Int.reduceEq, Nat.reduceLeDiff, Nat.reduceMul, Nat.reduceLT, *]
  | simp (singlePass := true) (maxDischargeDepth := 99) only [*, S2, Nat.reduceLT])
          refine anyX_one (i := 12) (f := 0) KR KR rfl (relStep_off rfl ?_)
          (repeat' first
  | ((with_reducible refine at_row ?_); refine row1_a fun _ _ _ _ _ _ _ => ?_)
  | with_reducible first | (first | apply alloc_k | apply row_k); intro _ _ _ _ _ _ | (first | apply fork | apply forkp) <;> intro _ | refine forke (fun _ => ?_) fun _ _ => ?_ | refine tail_k fun _ _ _ => ?_ | refine ext_k fun _ _ _ => ?_ | refine need_a ?_ | refine st_agg KR rfl ON fun _ _ _ _ => ?_ | refine wpd_q_a ?_
  | simp (maxDischargeDepth := 3) only [↓X, ↓Y, ↓Q, S1, ↓reduceIte, Nat.reduceEqDiff, Nat.reduceAdd, Int.reduceLT, Int.reduceLE, Int.reduceNeg, Int.reduceBEq, Int.reduceBNe, Int.reduceEq, Nat.reduceLeDiff, Nat.reduceMul, Nat.reduceLT, *]
  | simp (singlePass := true) (maxDischargeDepth := 99) only [*, S2, Nat.reduceLT])
          rename_i we ne ke se
          refine anyX_end KR ?_
          (repeat' first
  | ((with_reducible refine at_row ?_); refine row1_a fun _ _ _ _ _ _ _ => ?_)
  | with_reducible first | (first | apply alloc_k | apply row_k); intro _ _ _ _ _ _ | (first | apply fork | apply forkp) <;> intro _ | refine forke (fun _ => ?_) fun _ _ => ?_ | refine tail_k fun _ _ _ => ?_ | refine ext_k fun _ _ _ => ?_ | refine need_a ?_ | refine st_agg KR rfl ON fun _ _ _ _ => ?_ | refine wpd_q_a ?_
  | simp (maxDischargeDepth := 3) only [↓X, ↓Y, ↓Q, S1, ↓reduceIte, Nat.reduceEqDiff, Nat.reduceAdd, Int.reduceLT, Int.reduceLE, Int.reduceNeg, Int.reduceBEq, Int.reduceBNe, Int.reduceEq, Nat.reduceLeDiff, Nat.reduceMul, Nat.reduceLT, *]
  | simp (singlePass := true) (maxDischargeDepth := 99) only [*, S2, Nat.reduceLT])
          exact fin9 _ ke (HO.1 _ FR) (RO.1 _ FR) FR (fun c h1 h2 => by
           have h3 : Kp c wI wI := ⟨h1, rfl⟩
           exact FR) FR
       ·rename_i h0a h0
        have hne : ¬ (an = 1 ∧ a0 = 0) := fun h => h0 h.2
        rw [if_neg hne] at hwt
        have e9 : Ext wI w9 := FR
        exact ⟨hvj, rvj, (kW.2.1 wI kW.2.2.1).ext e9, by rw [← hwt]; exact ⟨(XI.1.ext e9 (Nat.le_refl _)).more e9.size, (XI.2.ext e9 (Nat.le_refl _)).more e9.size⟩, TBn.of_ext e9⟩
    ·rintro gT wT nT ⟨⟨s3, s4, s5, s9', s11, s12, s13, s14, s17⟩, hI⟩
     obtain ⟨hT, rT, kT, XT, TT⟩ := hI.out
     have keyT : ∀ c, c < wI.heap.size → ¬ c = bW → Kp c wI wT := fun c h1 h2 => ⟨h1, TT.block c h1 h2⟩
     have kTW := kT.bk
     have kRT := (kRI.2.1 wT (keyT bR kRI.2.2.2.1 nW4.1.1)).bk
     have kAT := (kAI.2.1 wT (keyT bA kAI.2.2.2.1 nW4.2.1.1)).bk
     have kNT := (kNI.2.1 wT (keyT bN kNI.2.2.2.1 nW4.2.2.1.1)).bk
     have k5T := (k5I.2.1 wT (keyT b5 k5I.2.2.2.1 nW4.2.2.2.1.1)).bk
     have k4T := (k4I.2.1 wT (keyT b4 k4I.2.2.2.1 nW4.2.2.2.2.1.1)).bk
     have kQT := (kQI.2.1 wT (keyT bQ kQI.2.2.2.1 nW4.2.2.2.2.2.1)).bk
     have XJ : WorldR wT wT.heap.size hvj rvj xj := XI.via keyT (fun c hc => by subst hc; exact hnW) TT.size
     have hagsT : Hid (∀ h, h < si.hosts.length → ∃ av, ags[h]? = some av ∧ Sl wT wT.heap.size (some 2) 2 av ((Ls h).map replyV) ∧ (∀ c, c = bR ∨ c = bA ∨ c = bN ∨ c = bQ ∨ c = bW → NB av c) ∧ (Ls h).length ≤ j ∧ (∀ p ∈ Ls h, 1 ≤ p.id) ∧ Told (Ls h) (fun id => al.getD (13 * h + id.toNat) 0)) := fun h hh => by
      obtain ⟨av, g1, g2, g3, g4⟩ := hagsI.out h hh
      exact ⟨av, g1, g2.via keyT (fun c hc => g3 c (by simp [hc])) TT.size, g3, g4⟩
     have T5 : Hid (TBn (fun c => c = bR ∨ c = bA ∨ c = bN) wL wT) := tbn_via TI.out ⟨Nat.zero_le _, ⟨TT.os, TT.tape, TT.output, TT.size, fun c hc => absurd hc (Nat.not_lt_zero _)⟩⟩ keyT (fun c h1 h2 h3 => by subst h3; omega) TT.size
     have hExT : Ext w wT := hExL.trans' ⟨T5.out.os, T5.out.tape, T5.out.output, T5.out.size, fun c hc => T5.out.block c (Nat.lt_of_lt_of_le hc hExL.size) (by simp only [not_or]; omega)⟩
     have hBT : Bl B w wT := ⟨hB, hExT.mono hB⟩
     have hBTs : B ≤ wT.heap.size := hBT.size
     obtain ⟨avT, havT, hlT, hnT, -⟩ := hagsT.out hN hhn
     have hanswT : Hid (∀ w', Bl wT.heap.size wT w' → Ret Tryz.prog 22 #[.agg (siteC u si).toArray, .agg #[wv], .agg #[hvj, rvj], requestV ⟨qI, q1, ⟨qk, hN, qs, qv⟩⟩, intV (now + late)] w' (.int .u8 an)) := fun w' hb => by
      have hb2 : Bl B w w' := ⟨hB, hBT.2.trans (hb.2.mono hBTs)⟩
      have := ref26Answer (r := ⟨qI, q1, ⟨qk, hN, qs, qv⟩⟩) (now := now + late) (B := wT.heap.size) hb.size ((hS w' hb2).up hBTs) ((hW w' hb2).up hBTs) (((XJ.sk (Nat.le_refl _)).2.2.2.2) w' hb) (by simp only; omega)
      rwa [han] at this
     have XKT := (XJ.sk (Nat.le_refl _)).2.2.2.2
     have AKT := (hlT.k (Nat.le_refl _)).2.2.2.2.2.2.1
     have XTK := (XT.sk (Nat.le_refl _)).2.2.2.2
     have bbT : Bl wT.heap.size wT wT := Bl.refl (Nat.le_refl _)
     have rT9 : Ext wT wT := Ext.refl _
     have hRT := kRT.2.2.2.1
     have hAT := kAT.2.2.2.1
     have hNT := kNT.2.2.2.1
     obtain ⟨l1, hd1, hvw, htl, hl1, hl1n, hl1p⟩ := hon.out
     have hq1' := head_ne hl1n hl1p
     have hlen1 : (Ls hN).length ≤ 1000000 := by omega
     replace htl : Hid _ := htl
     replace hl1p : Hid _ := hl1p
     clear hI hagsI keyT kRI kAI kNI k5I k4I kQI XKI XI hansw kW TT TI hon hBI hBIs bbI rI hav hnl han haw hae kT
     (repeat' first
  | ((with_reducible refine wpd_at 21 ?_); refine wpd_hold ?_)
  | ((with_reducible refine at_row ?_); refine row1_a fun _ _ _ _ _ _ _ => ?_)
  | with_reducible first | (first | apply alloc_k | apply row_k); intro _ _ _ _ _ _ | (first | apply fork | apply forkp) <;> intro _ | refine forke (fun _ => ?_) fun _ _ => ?_ | refine tail_k fun _ _ _ => ?_ | refine ext_k fun _ _ _ => ?_ | refine need_a ?_ | refine st_agg KR rfl ON fun _ _ _ _ => ?_ | refine wpd_q_a ?_
  | simp (maxDischargeDepth := 3) only [↓X, ↓Y, ↓Q, S1, ↓reduceIte, Nat.reduceEqDiff, Nat.reduceAdd, Int.reduceLT, Int.reduceLE, Int.reduceNeg, Int.reduceBEq, Int.reduceBNe, Int.reduceEq, Nat.reduceLeDiff, Nat.reduceMul, Nat.reduceLT, *, siteC]
  | simp (singlePass := true) (maxDischargeDepth := 99) only [*, S2, Nat.reduceLT, siteC])
     unfold wpdH
     refine wpd_relS 30 [(27, 24), (28, 25), (29, 26)] (fun iI s v w9 => match iI with
      | 0 => v = .agg (siteC u si).toArray
      | 1 => v = .agg #[wv]
      | 2 => v = .pointer (some ⟨bR, 0, none⟩)
      | 3 => v = .pointer (some ⟨bR, 0, none⟩)
      | 4 => v = .pointer (some ⟨bR, 8, none⟩)
      | 5 => v = .agg #[hvj, rvj]
      | 6 => v = .pointer (some ⟨bR, 0, none⟩)
      | 7 => v = .pointer (some ⟨bR, 0, none⟩)
      | 8 => v = .pointer (some ⟨bR, 10, none⟩)
      | 9 => v = .slice (some ⟨bA, 0, none⟩) si.hosts.length si.hosts.length
      | 10 => v = .int .i64 hN
      | 11 => v = .pointer (some ⟨bA, hN, none⟩)
      | 12 => v = .agg #[avT]
      | 13 => v = requestV ⟨qI, q1, ⟨qk, hN, qs, qv⟩⟩
      | 14 => v = .pointer (some ⟨bR, 0, none⟩)
      | 15 => v = .pointer (some ⟨bR, 0, none⟩)
      | 16 => v = .pointer (some ⟨bR, 11, none⟩)
      | 17 => v = intV (now + late)
      | 18 => HandR wT.heap.size v w9 ⟨wt, l1, ⟨qI, fs⟩, 0⟩
      | 19 => HandR wT.heap.size v w9 ⟨wt, l1, ⟨qI, fs⟩, 0⟩
      | 20 => OwnW wT.heap.size v w9 wt
      | 21 => ∃ a, v = .agg #[a] ∧ OwnA w9 wT.heap.size a l1
      | 22 => v = replyV ⟨qI, fs⟩
      | 23 => v = intV 0
      | 24 => ∃ b, v = .pointer (some ⟨b, 0, none⟩) ∧ wT.heap.size ≤ b ∧ (s = false → Blk w9 b 36 [.slice none 0 0, .slice none 0 0]) ∧ (s = true → ∃ h r, Blk w9 b 36 [h, r] ∧ OwnH w9 wT.heap.size h wt.hosts ∧ OwnP w9 wT.heap.size r wt.replicas)
      | 25 => ∃ b, v = .pointer (some ⟨b, 0, none⟩) ∧ wT.heap.size ≤ b ∧ (s = false → Blk w9 b 39 [.slice none 0 0]) ∧ (s = true → ∃ a, Blk w9 b 39 [a] ∧ OwnA w9 wT.heap.size a l1)
      | 26 => ∃ b, v = .pointer (some ⟨b, 0, none⟩) ∧ wT.heap.size ≤ b ∧ (s = false → Blk w9 b 50 [intV 0, .int .u8 0]) ∧ (s = true → Blk w9 b 50 [intV qI, .int .u8 fs])
      | 27 => True
      | 28 => True
      | 29 => True
      | _ => False) KR KR KR KR ?_ ?_ ?_
     ·intro iI s v w1 w2 hR hx9
      match iI, hR with
      | 0, h => exact h
      | 1, h => exact h
      | 2, h => exact h
      | 3, h => exact h
      | 4, h => exact h
      | 5, h => exact h
      | 6, h => exact h
      | 7, h => exact h
      | 8, h => exact h
      | 9, h => exact h
      | 10, h => exact h
      | 11, h => exact h
      | 12, h => exact h
      | 13, h => exact h
      | 14, h => exact h
      | 15, h => exact h
      | 16, h => exact h
      | 17, h => exact h
      | 18, h => exact HandR.ext h hx9
      | 19, h => exact HandR.ext h hx9
      | 20, h => exact OwnW.ext h hx9
      | 21, h => exact (let ⟨a, e, k⟩ := h; ⟨a, e, k.ext hx9⟩)
      | 22, h => exact h
      | 23, h => exact h
      | 24, ⟨b, e, h1, h2, h3⟩ => exact ⟨b, e, h1, fun hs => (h2 hs).ext hx9, fun hs => (fun h => (let ⟨a, b, k, o1, o2⟩ := h; ⟨a, b, k.ext hx9, o1.ext hx9, o2.ext hx9⟩)) (h3 hs)⟩
      | 25, ⟨b, e, h1, h2, h3⟩ => exact ⟨b, e, h1, fun hs => (h2 hs).ext hx9, fun hs => (fun h => (let ⟨a, k, o1⟩ := h; ⟨a, k.ext hx9, o1.ext hx9⟩)) (h3 hs)⟩
      | 26, ⟨b, e, h1, h2, h3⟩ => exact ⟨b, e, h1, fun hs => (h2 hs).ext hx9, fun hs => (fun h => h.ext hx9) (h3 hs)⟩
      | 27, h => exact h
      | 28, h => exact h
      | 29, h => exact h
     ·intro iI oO hi ho gF w9 S9 hx9 hdep hag
      have s9 := hx9.st
      have n9 : Now w9 := trivial
      have r9 := Ext.refl w9
      have z9 := hx9.size
      rcases iI with _|_|_|_|_|_|_|_|_|_|_|_|_|_|_|_|_|_|_|_|_|_|_|_|_|_|_|_|_|_|iI
      have e := Option.some.inj ho
      subst e
      have a4 := hag.at 4 KR
      simp only [S5, ↓reduceIte, Nat.reduceEqDiff, initF, *] at a4
      clear hag hdep ho
      refine ⟨fun _ => ?_, fun a9 pa da hal => by simp [alL] at hal⟩
      refine relStep_off rfl ?_
      rotate_left
      have e := Option.some.inj ho
      subst e
      have a5 := hag.at 5 KR
      simp only [S5, ↓reduceIte, Nat.reduceEqDiff, initF, *] at a5
      clear hag hdep ho
      refine ⟨fun _ => ?_, fun a9 pa da hal => by simp [alL] at hal⟩
      refine relStep_off rfl ?_
      rotate_left
      have e := Option.some.inj ho
      subst e
      have a9 := hag.at 9 KR
      simp only [S5, ↓reduceIte, Nat.reduceEqDiff, initF, *] at a9
      clear hag hdep ho
      refine ⟨fun _ => ?_, fun a9 pa da hal => by simp [alL] at hal⟩
      refine relStep_off rfl ?_
      rotate_left
      have e := Option.some.inj ho
      subst e
      have d2 : (gF 154) = .pointer (some ⟨bR, 0, none⟩) := hdep ⟨2, .data⟩ (by simp) rfl _ _ rfl rfl
      clear hag hdep ho
      refine ⟨fun _ => ?_, fun a9 pa da hal => by simp [alL] at hal⟩
      refine relStep_off rfl ?_
      rotate_left
      have e := Option.some.inj ho
      subst e
      have d3 : (gF 155) = .pointer (some ⟨bR, 0, none⟩) := hdep ⟨3, .data⟩ (by simp) rfl _ _ rfl rfl
      clear hag hdep ho
      refine ⟨fun _ => ?_, fun a9 pa da hal => by simp [alL] at hal⟩
      refine relStep_off rfl ?_
      rotate_left
      have e := Option.some.inj ho
      subst e
      have d4 : (gF 156) = .pointer (some ⟨bR, 8, none⟩) := hdep ⟨4, .data⟩ (by simp) rfl _ _ rfl rfl
      clear hag hdep ho
      refine ⟨fun _ => ?_, fun a9 pa da hal => by simp [alL] at hal⟩
      refine relStep_off rfl ?_
      rotate_left
      have e := Option.some.inj ho
      subst e
      have a9 := hag.at 9 KR
      simp only [S5, ↓reduceIte, Nat.reduceEqDiff, initF, *] at a9
      clear hag hdep ho
      refine ⟨fun _ => ?_, fun a9 pa da hal => by simp [alL] at hal⟩
      refine relStep_off rfl ?_
      rotate_left
      have e := Option.some.inj ho
      subst e
      have d6 : (gF 158) = .pointer (some ⟨bR, 0, none⟩) := hdep ⟨6, .data⟩ (by simp) rfl _ _ rfl rfl
      clear hag hdep ho
      refine ⟨fun _ => ?_, fun a9 pa da hal => by simp [alL] at hal⟩
      refine relStep_off rfl ?_
      rotate_left
      have e := Option.some.inj ho
      subst e
      have d7 : (gF 159) = .pointer (some ⟨bR, 0, none⟩) := hdep ⟨7, .data⟩ (by simp) rfl _ _ rfl rfl
      clear hag hdep ho
      refine ⟨fun _ => ?_, fun a9 pa da hal => by simp [alL] at hal⟩
      refine relStep_off rfl ?_
      rotate_left
      have e := Option.some.inj ho
      subst e
      have d8 : (gF 160) = .pointer (some ⟨bR, 10, none⟩) := hdep ⟨8, .data⟩ (by simp) rfl _ _ rfl rfl
      clear hag hdep ho
      refine ⟨fun _ => ?_, fun a9 pa da hal => by simp [alL] at hal⟩
      refine relStep_off rfl ?_
      rotate_left
      have e := Option.some.inj ho
      subst e
      have a14 := hag.at 14 KR
      simp only [S5, ↓reduceIte, Nat.reduceEqDiff, initF, *] at a14
      clear hag hdep ho
      refine ⟨fun _ => ?_, fun a9 pa da hal => by simp [alL] at hal⟩
      refine relStep_off rfl ?_
      rotate_left
      have e := Option.some.inj ho
      subst e
      have d9 : (gF 161) = .slice (some ⟨bA, 0, none⟩) si.hosts.length si.hosts.length := hdep ⟨9, .data⟩ (by simp) rfl _ _ rfl rfl
      have d10 : (gF 162) = .int .i64 hN := hdep ⟨10, .data⟩ (by simp) rfl _ _ rfl rfl
      clear hag hdep ho
      refine ⟨fun _ => ?_, fun a9 pa da hal => by simp [alL] at hal⟩
      refine relStep_off rfl ?_
      rotate_left
      have e := Option.some.inj ho
      subst e
      have d11 : (gF 163) = .pointer (some ⟨bA, hN, none⟩) := hdep ⟨11, .data⟩ (by simp) rfl _ _ rfl rfl
      clear hag hdep ho
      refine ⟨fun _ => ?_, fun a9 pa da hal => by simp [alL] at hal⟩
      refine relStep_off rfl ?_
      rotate_left
      have e := Option.some.inj ho
      subst e
      have a13 := hag.at 13 KR
      simp only [S5, ↓reduceIte, Nat.reduceEqDiff, initF, *] at a13
      clear hag hdep ho
      refine ⟨fun _ => ?_, fun a9 pa da hal => by simp [alL] at hal⟩
      refine relStep_off rfl ?_
      rotate_left
      have e := Option.some.inj ho
      subst e
      have a9 := hag.at 9 KR
      simp only [S5, ↓reduceIte, Nat.reduceEqDiff, initF, *] at a9
      clear hag hdep ho
      refine ⟨fun _ => ?_, fun a9 pa da hal => by simp [alL] at hal⟩
      refine relStep_off rfl ?_
      rotate_left
      have e := Option.some.inj ho
      subst e
      have d14 : (gF 166) = .pointer (some ⟨bR, 0, none⟩) := hdep ⟨14, .data⟩ (by simp) rfl _ _ rfl rfl
      clear hag hdep ho
      refine ⟨fun _ => ?_, fun a9 pa da hal => by simp [alL] at hal⟩
      refine relStep_off rfl ?_
      rotate_left
      have e := Option.some.inj ho
      subst e
      have d15 : (gF 167) = .pointer (some ⟨bR, 0, none⟩) := hdep ⟨15, .data⟩ (by simp) rfl _ _ rfl rfl
      clear hag hdep ho
      refine ⟨fun _ => ?_, fun a9 pa da hal => by simp [alL] at hal⟩
      refine relStep_off rfl ?_
      rotate_left
      have e := Option.some.inj ho
      subst e
      have d16 : (gF 168) = .pointer (some ⟨bR, 11, none⟩) := hdep ⟨16, .data⟩ (by simp) rfl _ _ rfl rfl
      clear hag hdep ho
      refine ⟨fun _ => ?_, fun a9 pa da hal => by simp [alL] at hal⟩
      refine relStep_off rfl ?_
      rotate_left
      have e := Option.some.inj ho
      subst e
      have d0 : (gF 152) = .agg (siteC u si).toArray := hdep ⟨0, .data⟩ (by simp) rfl _ _ rfl rfl
      have d1 : (gF 153) = .agg #[wv] := hdep ⟨1, .data⟩ (by simp) rfl _ _ rfl rfl
      have d5 : (gF 157) = .agg #[hvj, rvj] := hdep ⟨5, .data⟩ (by simp) rfl _ _ rfl rfl
      have d12 : (gF 164) = .agg #[avT] := hdep ⟨12, .data⟩ (by simp) rfl _ _ rfl rfl
      have d13 : (gF 165) = requestV ⟨qI, q1, ⟨qk, hN, qs, qv⟩⟩ := hdep ⟨13, .data⟩ (by simp) rfl _ _ rfl rfl
      have d17 : (gF 169) = intV (now + late) := hdep ⟨17, .data⟩ (by simp) rfl _ _ rfl rfl
      clear hag hdep ho
      refine ⟨fun _ => ?_, fun a9 pa da hal => by simp [alL] at hal⟩
      refine relStep_off rfl ?_
      rotate_left
      have e := Option.some.inj ho
      subst e
      have d18 : HandR wT.heap.size (gF 170) w9 ⟨wt, l1, ⟨qI, fs⟩, 0⟩ := hdep ⟨18, .data⟩ (by simp) rfl _ _ rfl rfl
      clear hag hdep ho
      refine ⟨fun _ => ?_, fun a9 pa da hal => by simp [alL] at hal⟩
      refine relStep_off rfl ?_
      rotate_left
      have e := Option.some.inj ho
      subst e
      have d19 : HandR wT.heap.size (gF 151) w9 ⟨wt, l1, ⟨qI, fs⟩, 0⟩ := hdep ⟨19, .data⟩ (by simp) rfl _ _ rfl rfl
      obtain ⟨v6, a6, e6, o6, oa6⟩ := d19
      clear hag hdep ho
      refine ⟨fun _ => ?_, fun a9 pa da hal => by simp [alL] at hal⟩
      refine relStep_off rfl ?_
      rotate_left
      have e := Option.some.inj ho
      subst e
      have d19 : HandR wT.heap.size (gF 151) w9 ⟨wt, l1, ⟨qI, fs⟩, 0⟩ := hdep ⟨19, .data⟩ (by simp) rfl _ _ rfl rfl
      obtain ⟨v6, a6, e6, o6, oa6⟩ := d19
      clear hag hdep ho
      refine ⟨fun _ => ?_, fun a9 pa da hal => by simp [alL] at hal⟩
      refine relStep_off rfl ?_
      rotate_left
      have e := Option.some.inj ho
      subst e
      have d19 : HandR wT.heap.size (gF 151) w9 ⟨wt, l1, ⟨qI, fs⟩, 0⟩ := hdep ⟨19, .data⟩ (by simp) rfl _ _ rfl rfl
      obtain ⟨v6, a6, e6, o6, oa6⟩ := d19
      clear hag hdep ho
      refine ⟨fun _ => ?_, fun a9 pa da hal => by simp [alL] at hal⟩
      refine relStep_off rfl ?_
      rotate_left
      have e := Option.some.inj ho
      subst e
      have d19 : HandR wT.heap.size (gF 151) w9 ⟨wt, l1, ⟨qI, fs⟩, 0⟩ := hdep ⟨19, .data⟩ (by simp) rfl _ _ rfl rfl
      obtain ⟨v6, a6, e6, o6, oa6⟩ := d19
      clear hag hdep ho
      refine ⟨fun _ => ?_, fun a9 pa da hal => by simp [alL] at hal⟩
      refine relStep_off rfl ?_
      rotate_left
      have e := Option.some.inj ho
      subst e
      clear hag hdep ho
      refine ⟨fun _ => ?_, fun a9 pa da hal => by simp [alL] at hal⟩
      refine relStep_off rfl ?_
      rotate_left
      have e := Option.some.inj ho
      subst e
      clear hag hdep ho
      refine ⟨fun _ => ?_, fun a9 pa da hal => by simp [alL] at hal⟩
      refine relStep_off rfl ?_
      rotate_left
      have e := Option.some.inj ho
      subst e
      clear hag hdep ho
      refine ⟨fun _ => ?_, fun a9 pa da hal => by simp [alL] at hal⟩
      refine relStep_off rfl ?_
      rotate_left
      have e := Option.some.inj ho
      subst e
      have d24 : ∃ b, (gF 18) = .pointer (some ⟨b, 0, none⟩) ∧ wT.heap.size ≤ b ∧ ((S9 24) = false → Blk w9 b 36 [.slice none 0 0, .slice none 0 0]) ∧ ((S9 24) = true → ∃ h r, Blk w9 b 36 [h, r] ∧ OwnH w9 wT.heap.size h wt.hosts ∧ OwnP w9 wT.heap.size r wt.replicas) := hdep ⟨24, .data⟩ (by simp) rfl _ _ rfl rfl
      obtain ⟨b24, e24, q24, hz24, _⟩ := d24
      have d20 : OwnW wT.heap.size (gF 171) w9 wt := hdep ⟨20, .data⟩ (by simp) rfl _ _ rfl rfl
      obtain ⟨h7, r7, e7, oh7, or7⟩ := d20
      have H7 := oh7.one
      have R7 := or7.one
      clear hag hdep ho
      refine ⟨fun h => by simp [alL] at h, fun a9 pa da hal hS9 hpa hda => ?_⟩
      obtain rfl : 24 = a9 := by simpa [alL] using hal
      obtain rfl := Option.some.inj hpa
      obtain rfl := Option.some.inj hda
      have hz := hz24 hS9
      clear hal hpa hda hz24
      refine relStep_off rfl ?_
      rotate_left
      have e := Option.some.inj ho
      subst e
      have d25 : ∃ b, (gF 19) = .pointer (some ⟨b, 0, none⟩) ∧ wT.heap.size ≤ b ∧ ((S9 25) = false → Blk w9 b 39 [.slice none 0 0]) ∧ ((S9 25) = true → ∃ a, Blk w9 b 39 [a] ∧ OwnA w9 wT.heap.size a l1) := hdep ⟨25, .data⟩ (by simp) rfl _ _ rfl rfl
      obtain ⟨b25, e25, q25, hz25, _⟩ := d25
      have d21 : ∃ a, (gF 172) = .agg #[a] ∧ OwnA w9 wT.heap.size a l1 := hdep ⟨21, .data⟩ (by simp) rfl _ _ rfl rfl
      obtain ⟨a8, e8, oa8⟩ := d21
      have A8 := oa8.one
      clear hag hdep ho
      refine ⟨fun h => by simp [alL] at h, fun a9 pa da hal hS9 hpa hda => ?_⟩
      obtain rfl : 25 = a9 := by simpa [alL] using hal
      obtain rfl := Option.some.inj hpa
      obtain rfl := Option.some.inj hda
      have hz := hz25 hS9
      clear hal hpa hda hz25
      refine relStep_off rfl ?_
      rotate_left
      have e := Option.some.inj ho
      subst e
      have d26 : ∃ b, (gF 20) = .pointer (some ⟨b, 0, none⟩) ∧ wT.heap.size ≤ b ∧ ((S9 26) = false → Blk w9 b 50 [intV 0, .int .u8 0]) ∧ ((S9 26) = true → Blk w9 b 50 [intV qI, .int .u8 fs]) := hdep ⟨26, .data⟩ (by simp) rfl _ _ rfl rfl
      obtain ⟨b26, e26, q26, hz26, _⟩ := d26
      have d22 : (gF 173) = replyV ⟨qI, fs⟩ := hdep ⟨22, .data⟩ (by simp) rfl _ _ rfl rfl
      clear hag hdep ho
      refine ⟨fun h => by simp [alL] at h, fun a9 pa da hal hS9 hpa hda => ?_⟩
      obtain rfl : 26 = a9 := by simpa [alL] using hal
      obtain rfl := Option.some.inj hpa
      obtain rfl := Option.some.inj hda
      have hz := hz26 hS9
      clear hal hpa hda hz26
      refine relStep_off rfl ?_
      rotate_left
      ·omega
      all_goals (repeat' first
  | ((with_reducible refine at_row ?_); refine row1_a fun _ _ _ _ _ _ _ => ?_)
  | with_reducible first | (first | apply alloc_k | apply row_k); intro _ _ _ _ _ _ | (first | apply fork | apply forkp) <;> intro _ | refine forke (fun _ => ?_) fun _ _ => ?_ | refine tail_k fun _ _ _ => ?_ | refine ext_k fun _ _ _ => ?_ | refine need_a ?_ | refine st_agg KR rfl ON fun _ _ _ _ => ?_ | refine wpd_q_a ?_
  | simp (maxDischargeDepth := 3) only [↓X, ↓Y, ↓Q, S1, ↓reduceIte, Nat.reduceEqDiff, Nat.reduceAdd, Int.reduceLT, Int.reduceLE, Int.reduceNeg, Int.reduceBEq, Int.reduceBNe, Int.reduceEq, Nat.reduceLeDiff, Nat.reduceMul, Nat.reduceLT, *, siteC, requestV, requestC]
  | simp (singlePass := true) (maxDischargeDepth := 99) only [*, S2, Nat.reduceLT, siteC, requestV, requestC])
      all_goals first
       | (refine hand26 ⟨qI, q1, ⟨qk, hN, qs, qv⟩⟩ n9 rfl (hS _ FR) (hW _ FR) (XKT _ FR) z9 (AKT _ FR) hd1 FR FR FR FR hlen1)
       | (exact d18)
       | (exact o6)
       | (exact ⟨_, rfl, oa6⟩)
       | (rename_i b10 w10 n10 k10 s10 q10; exact ⟨_, rfl, FR, fun _ => k10.2.1 _ k10.2.2.1, fun h => absurd h (by decide)⟩)
       | (
         refine stT_agg (w0 := w9) (vs := [h7, r7]) hz rfl KR rfl (by simp [H7, R7]) fun w10 hb10 hc => ⟨b24, hc, q24, ⟨b24, (by first | exact e24 | rfl), q24, fun h => absurd h (by decide), fun _ => ⟨h7, r7, hb10, oh7.fra hz hc, or7.fra hz hc⟩⟩, ?_⟩
         intro iI s v hne hR
         match iI, hR with
         | 0, h | 1, h | 2, h | 3, h | 4, h | 5, h | 6, h | 7, h | 8, h | 9, h | 10, h | 11, h | 12, h | 13, h | 14, h | 15, h | 16, h | 17, h | 22, h | 23, h | 27, h | 28, h | 29, h => exact h
         | 18, h => exact HandR.fr h hz hc (by decide) (by decide) (by first | exact .inl (by decide) | exact .inr hq1')
         | 19, h => exact HandR.fr h hz hc (by decide) (by decide) (by first | exact .inl (by decide) | exact .inr hq1')
         | 20, h => exact OwnW.fr h hz hc
         | 21, h => exact (let ⟨a, e, k⟩ := h; ⟨a, e, Own.fr k hz hc (by first | exact .inl (by decide) | exact .inr hq1')⟩)
         | 24, _ => exact absurd rfl hne
         | 25, ⟨b, e, h1, h2, h3⟩ => exact ⟨b, e, h1, fun hs => Blk.fr (h2 hs) hz hc (by first | exact .inl (by decide) | exact .inr (by simp [natV, intV])), fun hs => (fun h => (let ⟨a, k, o1⟩ := h; ⟨a, k.fra hz hc, Own.fr o1 hz hc (by first | exact .inl (by decide) | exact .inr hq1')⟩)) (h3 hs)⟩
         | 26, ⟨b, e, h1, h2, h3⟩ => exact ⟨b, e, h1, fun hs => Blk.fr (h2 hs) hz hc (by first | exact .inl (by decide) | exact .inr (by simp [natV, intV])), fun hs => (fun h => h.fra hz hc) (h3 hs)⟩)
       | (
         refine stT_agg (w0 := w9) (vs := [a8]) hz rfl KR rfl (by simp [A8]) fun w10 hb10 hc => ⟨b25, hc, q25, ⟨b25, (by first | exact e25 | rfl), q25, fun h => absurd h (by decide), fun _ => ⟨a8, hb10, oa8.fra hz hc⟩⟩, ?_⟩
         intro iI s v hne hR
         match iI, hR with
         | 0, h | 1, h | 2, h | 3, h | 4, h | 5, h | 6, h | 7, h | 8, h | 9, h | 10, h | 11, h | 12, h | 13, h | 14, h | 15, h | 16, h | 17, h | 22, h | 23, h | 27, h | 28, h | 29, h => exact h
         | 18, h => exact HandR.fr h hz hc (by decide) (by decide) (by first | exact .inl (by decide) | exact .inr hq1')
         | 19, h => exact HandR.fr h hz hc (by decide) (by decide) (by first | exact .inl (by decide) | exact .inr hq1')
         | 20, h => exact OwnW.fr h hz hc
         | 21, h => exact (let ⟨a, e, k⟩ := h; ⟨a, e, Own.fr k hz hc (by first | exact .inl (by decide) | exact .inr hq1')⟩)
         | 24, ⟨b, e, h1, h2, h3⟩ => exact ⟨b, e, h1, fun hs => Blk.fr (h2 hs) hz hc (by first | exact .inl (by decide) | exact .inr (by simp [natV, intV])), fun hs => (fun h => (let ⟨a, b, k, o1, o2⟩ := h; ⟨a, b, k.fra hz hc, o1.fra hz hc, o2.fra hz hc⟩)) (h3 hs)⟩
         | 25, _ => exact absurd rfl hne
         | 26, ⟨b, e, h1, h2, h3⟩ => exact ⟨b, e, h1, fun hs => Blk.fr (h2 hs) hz hc (by first | exact .inl (by decide) | exact .inr (by simp [natV, intV])), fun hs => (fun h => h.fra hz hc) (h3 hs)⟩)
       | (
         refine stT_agg (w0 := w9) (vs := [intV qI, .int .u8 fs]) hz rfl KR rfl (by simp [intV, one_int]) fun w10 hb10 hc => ⟨b26, hc, q26, ⟨b26, (by first | exact e26 | rfl), q26, fun h => absurd h (by decide), fun _ => hb10⟩, ?_⟩
         intro iI s v hne hR
         match iI, hR with
         | 0, h | 1, h | 2, h | 3, h | 4, h | 5, h | 6, h | 7, h | 8, h | 9, h | 10, h | 11, h | 12, h | 13, h | 14, h | 15, h | 16, h | 17, h | 22, h | 23, h | 27, h | 28, h | 29, h => exact h
         | 18, h => exact HandR.fr h hz hc (by decide) (by decide) (by first | exact .inl (by decide) | exact .inr hq1')
         | 19, h => exact HandR.fr h hz hc (by decide) (by decide) (by first | exact .inl (by decide) | exact .inr hq1')
         | 20, h => exact OwnW.fr h hz hc
         | 21, h => exact (let ⟨a, e, k⟩ := h; ⟨a, e, Own.fr k hz hc (by first | exact .inl (by decide) | exact .inr hq1')⟩)
         | 24, ⟨b, e, h1, h2, h3⟩ => exact ⟨b, e, h1, fun hs => Blk.fr (h2 hs) hz hc (by first | exact .inl (by decide) | exact .inr (by simp [natV, intV])), fun hs => (fun h => (let ⟨a, b, k, o1, o2⟩ := h; ⟨a, b, k.fra hz hc, o1.fra hz hc, o2.fra hz hc⟩)) (h3 hs)⟩
         | 25, ⟨b, e, h1, h2, h3⟩ => exact ⟨b, e, h1, fun hs => Blk.fr (h2 hs) hz hc (by first | exact .inl (by decide) | exact .inr (by simp [natV, intV])), fun hs => (fun h => (let ⟨a, k, o1⟩ := h; ⟨a, k.fra hz hc, Own.fr o1 hz hc (by first | exact .inl (by decide) | exact .inr hq1')⟩)) (h3 hs)⟩
         | 26, _ => exact absurd rfl hne)
     ·intro g9 w9 hx9 hR hag
      have s9 := hx9.st
      have n9 : Now w9 := trivial
      have r9 := Ext.refl w9
      have z9 := hx9.size
      have d23 : (g9 174) = intV 0 := hR 23 _ _ (by decide) rfl rfl
      have d24 : ∃ b, (g9 18) = .pointer (some ⟨b, 0, none⟩) ∧ wT.heap.size ≤ b ∧ (true = false → Blk w9 b 36 [.slice none 0 0, .slice none 0 0]) ∧ (true = true → ∃ h r, Blk w9 b 36 [h, r] ∧ OwnH w9 wT.heap.size h wt.hosts ∧ OwnP w9 wT.heap.size r wt.replicas) := hR 24 _ _ (by decide) rfl rfl
      obtain ⟨b24, e24, q24, _, f24⟩ := d24
      replace f24 := f24 rfl
      have nw24 := Nw.of q24
      obtain ⟨hA, rA, kwA, ohA, orA⟩ := f24
      have KWA := kwA.bk
      have HA := ohA.o
      have RA := orA.o
      have nHA := And.intro (ohA.far hRT) (And.intro (ohA.far hAT) (ohA.far hNT))
      have nRA := And.intro (orA.far hRT) (And.intro (orA.far hAT) (orA.far hNT))
      clear kwA ohA orA
      have d25 : ∃ b, (g9 19) = .pointer (some ⟨b, 0, none⟩) ∧ wT.heap.size ≤ b ∧ (true = false → Blk w9 b 39 [.slice none 0 0]) ∧ (true = true → ∃ a, Blk w9 b 39 [a] ∧ OwnA w9 wT.heap.size a l1) := hR 25 _ _ (by decide) rfl rfl
      obtain ⟨b25, e25, q25, _, f25⟩ := d25
      replace f25 := f25 rfl
      have nw25 := Nw.of q25
      obtain ⟨aA, kaA, oaA⟩ := f25
      have KAA := kaA.bk
      have AA := oaA.o
      have nAA := And.intro (oaA.far hRT) (And.intro (oaA.far hAT) (oaA.far hNT))
      clear kaA oaA
      have d26 : ∃ b, (g9 20) = .pointer (some ⟨b, 0, none⟩) ∧ wT.heap.size ≤ b ∧ (true = false → Blk w9 b 50 [intV 0, .int .u8 0]) ∧ (true = true → Blk w9 b 50 [intV qI, .int .u8 fs]) := hR 26 _ _ (by decide) rfl rfl
      obtain ⟨b26, e26, q26, _, f26⟩ := d26
      replace f26 := f26 rfl
      have nw26 := Nw.of q26
      have KPA := f26.bk
      have a3 := hag.at 3 KR
      have a4 := hag.at 4 KR
      have a5 := hag.at 5 KR
      have a9 := hag.at 9 KR
      have a11 := hag.at 11 KR
      have a12 := hag.at 12 KR
      have a13 := hag.at 13 KR
      have a14 := hag.at 14 KR
      have a17 := hag.at 17 KR
      simp only [S5, ↓reduceIte, Nat.reduceEqDiff, initF, *] at a3 a4 a5 a9 a11 a12 a13 a14 a17
      clear hag hR
      simp only [List.drop_succ_cons, List.drop_zero]
      rename_i q6 q7 q8
      clear q6 q7 q8 f26
      obtain ⟨z0, hz0⟩ : ∃ z, (a0 == 0) = z := ⟨_, rfl⟩
      have hnat13 : ((13 * hN + qI : Nat) : Int) < ((13 * si.hosts.length : Nat) : Int) := by omega
      (repeat' first
  | (with_reducible refine fork_hold z0 ?_)
  | ((with_reducible refine at_row ?_); refine row1_a fun _ _ _ _ _ _ _ => ?_)
  | with_reducible first | (first | apply alloc_k | apply row_k); intro _ _ _ _ _ _ | (first | apply fork | apply forkp) <;> intro _ | refine forke (fun _ => ?_) fun _ _ => ?_ | refine tail_k fun _ _ _ => ?_ | refine ext_k fun _ _ _ => ?_ | refine need_a ?_ | refine st_agg KR rfl ON fun _ _ _ _ => ?_ | refine wpd_q_a ?_
  | simp (maxDischargeDepth := 3) only [↓X, ↓Y, ↓Q, S1, ↓reduceIte, Nat.reduceEqDiff, Nat.reduceAdd, Int.reduceLT, Int.reduceLE, Int.reduceNeg, Int.reduceBEq, Int.reduceBNe, Int.reduceEq, Nat.reduceLeDiff, Nat.reduceMul, Nat.reduceLT, *, hm1, hm2]
  | simp (singlePass := true) (maxDischargeDepth := 99) only [*, S2, Nat.reduceLT, hm1, hm2])
      obtain ⟨wS, hwS⟩ : ∃ x, x = w9 := ⟨_, rfl⟩
      subst hwS
      have rS : Ext wS wS := Ext.refl _
      refine fork_join (fun g' w' => (g' 3 = lv ∧ g' 4 = .pointer (some ⟨b4, 0, none⟩) ∧ g' 5 = .pointer (some ⟨b5, 0, none⟩) ∧ g' 9 = .pointer (some ⟨bR, 0, none⟩) ∧ g' 11 = .slice (some ⟨bN, 0, none⟩) (13 * si.hosts.length) (13 * si.hosts.length) ∧ g' 12 = .int .i64 j ∧ g' 13 = .pointer (some ⟨bQ, 0, none⟩) ∧ g' 14 = .int .i64 hN ∧ g' 17 = .pointer (some ⟨bW, 0, none⟩) ∧
       g' 18 = .pointer (some ⟨b24, 0, none⟩) ∧ g' 19 = .pointer (some ⟨b25, 0, none⟩) ∧ g' 20 = .pointer (some ⟨b26, 0, none⟩) ∧ g' 21 = intV 0 ∧ g' 22 = .int .u8 fs) ∧ Hid (Ext wS w')) ?_ ?_ ?_
      ·intro hz
       have ha00 : a0 = 0 := by rw [← hz0] at hz; simpa using hz
       have hfa : fs = an := by rw [← hfs, if_pos ha00]
       subst hfa
       clear hfs hz0 hwt
       (repeat' first
  | ((with_reducible refine wpd_at 24 ?_); refine wpd_hold ?_)
  | ((with_reducible refine at_row ?_); refine row1_a fun _ _ _ _ _ _ _ => ?_)
  | with_reducible first | (first | apply alloc_k | apply row_k); intro _ _ _ _ _ _ | (first | apply fork | apply forkp) <;> intro _ | refine forke (fun _ => ?_) fun _ _ => ?_ | refine tail_k fun _ _ _ => ?_ | refine ext_k fun _ _ _ => ?_ | refine need_a ?_ | refine st_agg KR rfl ON fun _ _ _ _ => ?_ | refine wpd_q_a ?_
  | simp (maxDischargeDepth := 3) only [↓X, ↓Y, ↓Q, S1, ↓reduceIte, Nat.reduceEqDiff, Nat.reduceAdd, Int.reduceLT, Int.reduceLE, Int.reduceNeg, Int.reduceBEq, Int.reduceBNe, Int.reduceEq, Nat.reduceLeDiff, Nat.reduceMul, Nat.reduceLT, *]
  | simp (singlePass := true) (maxDischargeDepth := 99) only [*, S2, Nat.reduceLT])
       unfold wpdH
       refine wpd_rel 12 (fun iI v w9 => match iI with
        | 0 => v = .agg (siteC u si).toArray
        | 1 => v = .agg #[wv]
        | 2 => v = .pointer (some ⟨bR, 0, none⟩)
        | 3 => v = .pointer (some ⟨bR, 0, none⟩)
        | 4 => v = .pointer (some ⟨bR, 8, none⟩)
        | 5 => v = .agg #[hvj, rvj]
        | 6 => v = requestV ⟨qI, q1, ⟨qk, hN, qs, qv⟩⟩
        | 7 => v = .pointer (some ⟨bR, 0, none⟩)
        | 8 => v = .pointer (some ⟨bR, 0, none⟩)
        | 9 => v = .pointer (some ⟨bR, 11, none⟩)
        | 10 => v = intV (now + late)
        | 11 => v = .int .u8 fs
        | _ => False) KR KR KR ?_ ?_ ?_
       ·intro iI v w1 w2 hR hx9
        match iI, hR with
        | 0, h => exact h
        | 1, h => exact h
        | 2, h => exact h
        | 3, h => exact h
        | 4, h => exact h
        | 5, h => exact h
        | 6, h => exact h
        | 7, h => exact h
        | 8, h => exact h
        | 9, h => exact h
        | 10, h => exact h
        | 11, h => exact h
       ·intro iI oO hi ho gF w9 hx9 hdep hag
        have s9 := hx9.st
        have n9 : Now w9 := trivial
        have r9 := Ext.refl w9
        have z9 := hx9.size
        rcases iI with _|_|_|_|_|_|_|_|_|_|_|_|iI
        have e := Option.some.inj ho
        subst e
        have a4 := hag.at 4 KR
        simp only [S5, ↓reduceIte, Nat.reduceEqDiff, initF, *] at a4
        clear hag hdep ho
        refine relStep_off rfl ?_
        rotate_left
        have e := Option.some.inj ho
        subst e
        have a5 := hag.at 5 KR
        simp only [S5, ↓reduceIte, Nat.reduceEqDiff, initF, *] at a5
        clear hag hdep ho
        refine relStep_off rfl ?_
        rotate_left
        have e := Option.some.inj ho
        subst e
        have a9 := hag.at 9 KR
        simp only [S5, ↓reduceIte, Nat.reduceEqDiff, initF, *] at a9
        clear hag hdep ho
        refine relStep_off rfl ?_
        rotate_left
        have e := Option.some.inj ho
        subst e
        have d2 : (gF 187) = .pointer (some ⟨bR, 0, none⟩) := hdep ⟨2, .data⟩ (by simp) rfl _ _ rfl rfl
        clear hag hdep ho
        refine relStep_off rfl ?_
        rotate_left
        have e := Option.some.inj ho
        subst e
        have d3 : (gF 188) = .pointer (some ⟨bR, 0, none⟩) := hdep ⟨3, .data⟩ (by simp) rfl _ _ rfl rfl
        clear hag hdep ho
        refine relStep_off rfl ?_
        rotate_left
        have e := Option.some.inj ho
        subst e
        have d4 : (gF 189) = .pointer (some ⟨bR, 8, none⟩) := hdep ⟨4, .data⟩ (by simp) rfl _ _ rfl rfl
        clear hag hdep ho
        refine relStep_off rfl ?_
        rotate_left
        have e := Option.some.inj ho
        subst e
        have a13 := hag.at 13 KR
        simp only [S5, ↓reduceIte, Nat.reduceEqDiff, initF, *] at a13
        clear hag hdep ho
        refine relStep_off rfl ?_
        rotate_left
        have e := Option.some.inj ho
        subst e
        have a9 := hag.at 9 KR
        simp only [S5, ↓reduceIte, Nat.reduceEqDiff, initF, *] at a9
        clear hag hdep ho
        refine relStep_off rfl ?_
        rotate_left
        have e := Option.some.inj ho
        subst e
        have d7 : (gF 192) = .pointer (some ⟨bR, 0, none⟩) := hdep ⟨7, .data⟩ (by simp) rfl _ _ rfl rfl
        clear hag hdep ho
        refine relStep_off rfl ?_
        rotate_left
        have e := Option.some.inj ho
        subst e
        have d8 : (gF 193) = .pointer (some ⟨bR, 0, none⟩) := hdep ⟨8, .data⟩ (by simp) rfl _ _ rfl rfl
        clear hag hdep ho
        refine relStep_off rfl ?_
        rotate_left
        have e := Option.some.inj ho
        subst e
        have d9 : (gF 194) = .pointer (some ⟨bR, 11, none⟩) := hdep ⟨9, .data⟩ (by simp) rfl _ _ rfl rfl
        clear hag hdep ho
        refine relStep_off rfl ?_
        rotate_left
        have e := Option.some.inj ho
        subst e
        have d0 : (gF 185) = .agg (siteC u si).toArray := hdep ⟨0, .data⟩ (by simp) rfl _ _ rfl rfl
        have d1 : (gF 186) = .agg #[wv] := hdep ⟨1, .data⟩ (by simp) rfl _ _ rfl rfl
        have d5 : (gF 190) = .agg #[hvj, rvj] := hdep ⟨5, .data⟩ (by simp) rfl _ _ rfl rfl
        have d6 : (gF 191) = requestV ⟨qI, q1, ⟨qk, hN, qs, qv⟩⟩ := hdep ⟨6, .data⟩ (by simp) rfl _ _ rfl rfl
        have d10 : (gF 195) = intV (now + late) := hdep ⟨10, .data⟩ (by simp) rfl _ _ rfl rfl
        clear hag hdep ho
        refine relStep_off rfl ?_
        rotate_left
        ·omega
        all_goals (repeat' first
  | ((with_reducible refine at_row ?_); refine row1_a fun _ _ _ _ _ _ _ => ?_)
  | with_reducible first | (first | apply alloc_k | apply row_k); intro _ _ _ _ _ _ | (first | apply fork | apply forkp) <;> intro _ | refine forke (fun _ => ?_) fun _ _ => ?_ | refine tail_k fun _ _ _ => ?_ | refine ext_k fun _ _ _ => ?_ | refine need_a ?_ | refine st_agg KR rfl ON fun _ _ _ _ => ?_ | refine wpd_q_a ?_
  | ((with_reducible refine at_f 22 ?_); refine ret_k (hanswT.out _ FR) fun _ _ _ => ?_)
  | simp (maxDischargeDepth := 3) only [↓X, ↓Y, ↓Q, S1, ↓reduceIte, Nat.reduceEqDiff, Nat.reduceAdd, Int.reduceLT, Int.reduceLE, Int.reduceNeg, Int.reduceBEq, Int.reduceBNe, Int.reduceEq, Nat.reduceLeDiff, Nat.reduceMul, Nat.reduceLT, *, siteC, requestV, requestC]
  | simp (singlePass := true) (maxDischargeDepth := 99) only [*, S2, Nat.reduceLT, siteC, requestV, requestC])
       ·intro g9 w9 hx9 hR hag
        have s9 := hx9.st
        have n9 : Now w9 := trivial
        have r9 := Ext.refl w9
        have z9 := hx9.size
        have d11 : (g9 196) = .int .u8 fs := hR 11 _ _ (by decide) rfl rfl
        have a3 := hag.at 3 KR
        have a4 := hag.at 4 KR
        have a5 := hag.at 5 KR
        have a9 := hag.at 9 KR
        have a11 := hag.at 11 KR
        have a12 := hag.at 12 KR
        have a13 := hag.at 13 KR
        have a14 := hag.at 14 KR
        have a17 := hag.at 17 KR
        have a18 := hag.at 18 KR
        have a19 := hag.at 19 KR
        have a20 := hag.at 20 KR
        have a21 := hag.at 21 KR
        simp only [S5, ↓reduceIte, Nat.reduceEqDiff, initF, *] at a3 a4 a5 a9 a11 a12 a13 a14 a17 a18 a19 a20 a21
        clear hag hR
        simp only [List.drop_succ_cons, List.drop_zero]
        (repeat' first
  | ((with_reducible refine at_row ?_); refine row1_a fun _ _ _ _ _ _ _ => ?_)
  | with_reducible first | (first | apply alloc_k | apply row_k); intro _ _ _ _ _ _ | (first | apply fork | apply forkp) <;> intro _ | refine forke (fun _ => ?_) fun _ _ => ?_ | refine tail_k fun _ _ _ => ?_ | refine ext_k fun _ _ _ => ?_ | refine need_a ?_ | refine st_agg KR rfl ON fun _ _ _ _ => ?_ | refine wpd_q_a ?_
  | simp (maxDischargeDepth := 3) only [↓X, ↓Y, ↓Q, S1, ↓reduceIte, Nat.reduceEqDiff, Nat.reduceAdd, Int.reduceLT, Int.reduceLE, Int.reduceNeg, Int.reduceBEq, Int.reduceBNe, Int.reduceEq, Nat.reduceLeDiff, Nat.reduceMul, Nat.reduceLT, *]
  | simp (singlePass := true) (maxDischargeDepth := 99) only [*, S2, Nat.reduceLT])
        all_goals exact trivial
      ·intro hz
       have ha00 : ¬ a0 = 0 := by rw [← hz0] at hz; simpa using hz
       have hfa : fs = a0 := by rw [← hfs, if_neg ha00]
       (repeat' first
  | ((with_reducible refine at_row ?_); refine row1_a fun _ _ _ _ _ _ _ => ?_)
  | with_reducible first | (first | apply alloc_k | apply row_k); intro _ _ _ _ _ _ | (first | apply fork | apply forkp) <;> intro _ | refine forke (fun _ => ?_) fun _ _ => ?_ | refine tail_k fun _ _ _ => ?_ | refine ext_k fun _ _ _ => ?_ | refine need_a ?_ | refine st_agg KR rfl ON fun _ _ _ _ => ?_ | refine wpd_q_a ?_
  | simp (maxDischargeDepth := 3) only [↓X, ↓Y, ↓Q, S1, ↓reduceIte, Nat.reduceEqDiff, Nat.reduceAdd, Int.reduceLT, Int.reduceLE, Int.reduceNeg, Int.reduceBEq, Int.reduceBNe, Int.reduceEq, Nat.reduceLeDiff, Nat.reduceMul, Nat.reduceLT, *, hfa]
  | simp (singlePass := true) (maxDischargeDepth := 99) only [*, S2, Nat.reduceLT, hfa])
       all_goals exact trivial
      ·rintro gU wU nU ⟨⟨p3, p4, p5, p9, p11, p12, p13, p14, p17, p18, p19, p20, p21, p22⟩, hU⟩
       have sU := hU.out.st
       have hBU : B ≤ wU.heap.size := Nat.le_trans hBTs FR
       clear hU hanswT
       (repeat' first
  | ((with_reducible refine wpd_at 28 ?_); refine wpd_hold ?_)
  | refine st_one KR (by simp only [List.length_map]; omega) rfl fun _ _ _ _ => ?_
  | ((with_reducible refine at_row ?_); refine row1_a fun _ _ _ _ _ _ _ => ?_)
  | with_reducible first | (first | apply alloc_k | apply row_k); intro _ _ _ _ _ _ | (first | apply fork | apply forkp) <;> intro _ | refine forke (fun _ => ?_) fun _ _ => ?_ | refine tail_k fun _ _ _ => ?_ | refine ext_k fun _ _ _ => ?_ | refine need_a ?_ | refine st_agg KR rfl ON fun _ _ _ _ => ?_ | refine wpd_q_a ?_
  | ((with_reducible refine at_f 15 ?_); refine ret_k (ref13Same (Nat.le_refl _) FR ⟨(HA.1 _ FR).slN (f := stateC), (RA.1 _ FR).slN (f := replC)⟩ (XTK _ FR)) fun _ _ _ => ?_)
  | ((with_reducible refine at_f 24 ?_); refine ret_k (ref13Valid (Nat.le_refl _) ((hS _ FR).up FR) ((hW _ FR).up FR) ⟨(HA.1 _ FR).slN (f := stateC), (RA.1 _ FR).slN (f := replC)⟩) fun _ _ _ => ?_)
  | simp (maxDischargeDepth := 3) only [↓X, ↓Y, ↓Q, S1, ↓reduceIte, Nat.reduceEqDiff, Nat.reduceAdd, Int.reduceLT, Int.reduceLE, Int.reduceNeg, Int.reduceBEq, Int.reduceBNe, Int.reduceEq, Nat.reduceLeDiff, Nat.reduceMul, Nat.reduceLT, *, siteC, hm1, hm2]
  | simp (singlePass := true) (maxDischargeDepth := 99) only [*, S2, Nat.reduceLT, siteC, hm1, hm2])
       rename_i wV nV kNV sV
       have ekN : (al.map aV).set (13 * hN + qI) (.int .u8 fs) = (al.set (13 * hN + qI) fs).map aV := by rw [List.map_set]; rfl
       rw [ekN] at kNV
       have kRV := (kRT.2.1 wV FR).bk
       have kAV := (kAT.2.1 wV FR).bk
       have HZ1 := HA.2.2.2.1
       have RZ1 := RA.2.2.2.1
       have hBV : B ≤ wV.heap.size := Nat.le_trans hBU FR
       have hRB : ∀ b ∈ [bR], b < wV.heap.size := by simp only [List.mem_cons, List.not_mem_nil, or_false, forall_eq_or_imp, forall_eq]; exact FR
       unfold wpdH
       refine wpd_relL 12 [bR] [(10, bR)] rfl (fun iI v w9 => match iI with
        | 0 => v = .pointer (some ⟨bR, 0, none⟩)
        | 1 => v = .pointer (some ⟨bR, 0, none⟩)
        | 2 => v = .pointer (some ⟨bR, 0, none⟩)
        | 3 => v = .pointer (some ⟨bR, 10, none⟩)
        | 4 => v = .slice (some ⟨bA, 0, none⟩) si.hosts.length si.hosts.length
        | 5 => v = .int .i64 hN
        | 6 => v = .agg #[hA, rA]
        | 7 => v = .agg #[aA]
        | 8 => v = .pointer (some ⟨bR, 0, none⟩)
        | 9 => v = .pointer (some ⟨bR, 8, none⟩)
        | 10 => Blk w9 bR 67 (runC u si wv hA rA (.slice (some ⟨bA, 0, none⟩) si.hosts.length si.hosts.length) (now + late))
        | 11 => v = .pointer (some ⟨bA, hN, none⟩)
        | _ => False) KR KR KR hRB (by simp only [List.nodup_cons, List.mem_cons, List.not_mem_nil, or_false, not_or, List.nodup_nil, not_false_eq_true, and_true] <;> exact FR) ?_ ?_ ?_
       ·intro iI v w1 w2 hR hx9
        match iI, hR with
        | 0, h => exact h
        | 1, h => exact h
        | 2, h => exact h
        | 3, h => exact h
        | 4, h => exact h
        | 5, h => exact h
        | 6, h => exact h
        | 7, h => exact h
        | 8, h => exact h
        | 9, h => exact h
        | 10, h => exact h.tb hx9 (fun hX => hX.2 rfl)
        | 11, h => exact h
       ·intro iI oO hi ho gF w9 hx9 hdep hag hun
        have s9 := hx9.sb
        simp only [Sb, List.mem_cons, List.not_mem_nil, or_false, forall_eq_or_imp, forall_eq] at s9
        have n9 : Now w9 := trivial
        have r9 := Ext.refl w9
        have z9 := hx9.size
        rcases iI with _|_|_|_|_|_|_|_|_|_|_|_|iI
        have e := Option.some.inj ho
        subst e
        have a9 := hag.at 9 KR
        simp only [S5, ↓reduceIte, Nat.reduceEqDiff, initF, *] at a9
        have un10 : Kp bR wV w9 := ⟨hRB _ (by simp), hun 10 _ (by decide) rfl KR⟩
        clear hag hdep ho hun
        refine ⟨fun _ => ?_, fun b hb => by simp [bkL] at hb⟩
        refine relStep_off rfl ?_
        rotate_left
        have e := Option.some.inj ho
        subst e
        have a9 := hag.at 9 KR
        simp only [S5, ↓reduceIte, Nat.reduceEqDiff, initF, *] at a9
        clear hag hdep ho hun
        refine ⟨fun _ => ?_, fun b hb => by simp [bkL] at hb⟩
        refine relStep_off rfl ?_
        rotate_left
        have e := Option.some.inj ho
        subst e
        have d1 : (gF 229) = .pointer (some ⟨bR, 0, none⟩) := hdep ⟨1, .data⟩ (by simp) rfl _ _ rfl rfl
        clear hag hdep ho hun
        refine ⟨fun _ => ?_, fun b hb => by simp [bkL] at hb⟩
        refine relStep_off rfl ?_
        rotate_left
        have e := Option.some.inj ho
        subst e
        have d2 : (gF 230) = .pointer (some ⟨bR, 0, none⟩) := hdep ⟨2, .data⟩ (by simp) rfl _ _ rfl rfl
        clear hag hdep ho hun
        refine ⟨fun _ => ?_, fun b hb => by simp [bkL] at hb⟩
        refine relStep_off rfl ?_
        rotate_left
        have e := Option.some.inj ho
        subst e
        have d3 : (gF 231) = .pointer (some ⟨bR, 10, none⟩) := hdep ⟨3, .data⟩ (by simp) rfl _ _ rfl rfl
        have un10 : Kp bR wV w9 := ⟨hRB _ (by simp), hun 10 _ (by decide) rfl KR⟩
        clear hag hdep ho hun
        refine ⟨fun _ => ?_, fun b hb => by simp [bkL] at hb⟩
        refine relStep_off rfl ?_
        rotate_left
        have e := Option.some.inj ho
        subst e
        have a14 := hag.at 14 KR
        simp only [S5, ↓reduceIte, Nat.reduceEqDiff, initF, *] at a14
        clear hag hdep ho hun
        refine ⟨fun _ => ?_, fun b hb => by simp [bkL] at hb⟩
        refine relStep_off rfl ?_
        rotate_left
        have e := Option.some.inj ho
        subst e
        have a18 := hag.at 18 KR
        simp only [S5, ↓reduceIte, Nat.reduceEqDiff, initF, *] at a18
        have un10 : Kp bR wV w9 := ⟨hRB _ (by simp), hun 10 _ (by decide) rfl KR⟩
        clear hag hdep ho hun
        refine ⟨fun _ => ?_, fun b hb => by simp [bkL] at hb⟩
        refine relStep_off rfl ?_
        rotate_left
        have e := Option.some.inj ho
        subst e
        have a19 := hag.at 19 KR
        simp only [S5, ↓reduceIte, Nat.reduceEqDiff, initF, *] at a19
        clear hag hdep ho hun
        refine ⟨fun _ => ?_, fun b hb => by simp [bkL] at hb⟩
        refine relStep_off rfl ?_
        rotate_left
        have e := Option.some.inj ho
        subst e
        have d0 : (gF 228) = .pointer (some ⟨bR, 0, none⟩) := hdep ⟨0, .data⟩ (by simp) rfl _ _ rfl rfl
        clear hag hdep ho hun
        refine ⟨fun _ => ?_, fun b hb => by simp [bkL] at hb⟩
        refine relStep_off rfl ?_
        rotate_left
        have e := Option.some.inj ho
        subst e
        have d8 : (gF 236) = .pointer (some ⟨bR, 0, none⟩) := hdep ⟨8, .data⟩ (by simp) rfl _ _ rfl rfl
        have un10 : Kp bR wV w9 := ⟨hRB _ (by simp), hun 10 _ (by decide) rfl KR⟩
        clear hag hdep ho hun
        refine ⟨fun _ => ?_, fun b hb => by simp [bkL] at hb⟩
        refine relStep_off rfl ?_
        rotate_left
        have e := Option.some.inj ho
        subst e
        have d6 : (gF 234) = .agg #[hA, rA] := hdep ⟨6, .data⟩ (by simp) rfl _ _ rfl rfl
        have d9 : (gF 237) = .pointer (some ⟨bR, 8, none⟩) := hdep ⟨9, .data⟩ (by simp) rfl _ _ rfl rfl
        clear hag hdep ho hun
        refine ⟨fun h => by simp [bkL] at h, fun b hb hU => ?_⟩
        obtain rfl : bR = b := by simpa [bkL] using hb
        refine relStep_off rfl ?_
        rotate_left
        have e := Option.some.inj ho
        subst e
        have d4 : (gF 232) = .slice (some ⟨bA, 0, none⟩) si.hosts.length si.hosts.length := hdep ⟨4, .data⟩ (by simp) rfl _ _ rfl rfl
        have d5 : (gF 233) = .int .i64 hN := hdep ⟨5, .data⟩ (by simp) rfl _ _ rfl rfl
        clear hag hdep ho hun
        refine ⟨fun _ => ?_, fun b hb => by simp [bkL] at hb⟩
        refine relStep_off rfl ?_
        rotate_left
        ·omega
        all_goals (repeat' first
  | ((with_reducible refine at_row ?_); refine row1_a fun _ _ _ _ _ _ _ => ?_)
  | with_reducible first | (first | apply alloc_k | apply row_k); intro _ _ _ _ _ _ | (first | apply fork | apply forkp) <;> intro _ | refine forke (fun _ => ?_) fun _ _ => ?_ | refine tail_k fun _ _ _ => ?_ | refine ext_k fun _ _ _ => ?_ | refine need_a ?_ | refine st_agg KR rfl ON fun _ _ _ _ => ?_ | refine wpd_q_a ?_
  | simp (maxDischargeDepth := 3) only [↓X, ↓Y, ↓Q, S1, ↓reduceIte, Nat.reduceEqDiff, Nat.reduceAdd, Int.reduceLT, Int.reduceLE, Int.reduceNeg, Int.reduceBEq, Int.reduceBNe, Int.reduceEq, Nat.reduceLeDiff, Nat.reduceMul, Nat.reduceLT, *]
  | simp (singlePass := true) (maxDischargeDepth := 99) only [*, S2, Nat.reduceLT])
        all_goals first
         | (exact storeAggAt_intro (vs := [hA, rA]) (off := 8) KR (show Blk w9 bR _ _ from hU.trans (kRV.2.1 wV kRV.2.2.1)) (by simp) (by simp [HZ1, RZ1]) fun w' hb' hc' => ⟨hc', hb'⟩)
       ·intro g9 w9 hx9 hR hS9 hag
        have s9 := hx9.sb
        simp only [Sb, List.mem_cons, List.not_mem_nil, or_false, forall_eq_or_imp, forall_eq] at s9
        have n9 : Now w9 := trivial
        have r9 := Ext.refl w9
        have z9 := hx9.size
        have d7 : (g9 235) = .agg #[aA] := hR 7 _ _ (by decide) rfl rfl
        obtain ⟨vs10, d10⟩ := hS9 10 _ (by decide) rfl
        replace d10 : Blk w9 bR 67 (runC u si wv hA rA (.slice (some ⟨bA, 0, none⟩) si.hosts.length si.hosts.length) (now + late)) := d10
        have d11 : (g9 238) = .pointer (some ⟨bA, hN, none⟩) := hR 11 _ _ (by decide) rfl rfl
        have a3 := hag.at 3 KR
        have a4 := hag.at 4 KR
        have a5 := hag.at 5 KR
        have a9 := hag.at 9 KR
        have a11 := hag.at 11 KR
        have a12 := hag.at 12 KR
        simp only [S5, ↓reduceIte, Nat.reduceEqDiff, initF, *] at a3 a4 a5 a9 a11 a12
        clear hag hR hS9
        simp only [List.drop_succ_cons, List.drop_zero]
        (repeat' first
  | ((with_reducible refine at_row ?_); refine row1_a fun _ _ _ _ _ _ _ => ?_)
  | with_reducible first | (first | apply alloc_k | apply row_k); intro _ _ _ _ _ _ | (first | apply fork | apply forkp) <;> intro _ | refine forke (fun _ => ?_) fun _ _ => ?_ | refine tail_k fun _ _ _ => ?_ | refine ext_k fun _ _ _ => ?_ | refine need_a ?_ | refine st_agg KR rfl ON fun _ _ _ _ => ?_ | refine wpd_q_a ?_
  | simp (maxDischargeDepth := 3) only [↓X, ↓Y, ↓Q, S1, ↓reduceIte, Nat.reduceEqDiff, Nat.reduceAdd, Int.reduceLT, Int.reduceLE, Int.reduceNeg, Int.reduceBEq, Int.reduceBNe, Int.reduceEq, Nat.reduceLeDiff, Nat.reduceMul, Nat.reduceLT, *]
  | simp (singlePass := true) (maxDischargeDepth := 99) only [*, S2, Nat.reduceLT])
        refine st_aggAt (vs := [aA]) (off := hN) KR (by simp only [List.length_singleton]; omega) (by simp [AA.2.2.2.1]) fun we ne ke se => ?_
        have ecs : putAt ags hN [aA] = ags.set hN aA := rfl
        rw [ecs] at ke
        have kR10 := d10.bk
        have fR := kR10.2.1 we FR
        have fA := ke.2.1 we ke.2.2.1
        have fN := kNV.2.1 we FR
        have oH := HA.1 we FR
        have oR := RA.1 we FR
        have oA := AA.1 we FR
        have zz : wT.heap.size ≤ we.heap.size := FR
        have FF : Hid (OnceI bR bA bN si.hosts.length u si (sl.map (·.x)) wv we (j + 1) ∧ TBn (fun c => c = bR ∨ c = bA ∨ c = bN) wL we) := by
         have h0R : 0 ≤ bR := Nat.zero_le _
         have h0A : 0 ≤ bA := Nat.zero_le _
         have h0N : 0 ≤ bN := Nat.zero_le _
         have b00 : Bl 0 wT wT := Bl.refl (Nat.zero_le _)
         have b01 : Bl 0 wT we := FR
         have key : ∀ c, c < wT.heap.size → ¬ (c = bR ∨ c = bA ∨ c = bN) → Kp c wT we := fun c h1 h2 => by
          have h3 : Kp c wT wT := ⟨h1, rfl⟩
          have h4 : ¬ c = bA := fun e => h2 (.inr (.inl e))
          have h5 : ¬ c = bR := fun e => h2 (.inl e)
          have h6 : ¬ c = bN := fun e => h2 (.inr (.inr e))
          exact FR
         refine ⟨⟨now + late, hA, rA, wt, ags.set hN aA, fun h => if h = hN then l1 else Ls h, al.set (13 * hN + qI) fs, fR, fA, by rw [List.length_set]; exact hal, fN, by rw [List.length_set]; exact hanl, ⟨oH.slN (f := stateC), oR.slN (f := replC)⟩, fun c hc => by rcases hc with rfl | rfl | rfl <;> exact ⟨oH.nb (by assumption), oR.nb (by assumption)⟩, fun h hh => ?_, hvw, by have := hlat.out; omega, by have := hlat.out; omega⟩, T5.out.trans (tbn_of b01 key zz)⟩
         by_cases e : h = hN
         ·subst e
          refine ⟨aA, List.getElem?_set_self (by omega), ?_, fun c hc => by rcases hc with rfl | rfl | rfl <;> exact oA.nb (by assumption), ?_, ?_, ?_⟩
          ·simp only [if_true]; exact oA.slN (f := replyC)
          ·simp only [if_true]; omega
          ·simp only [if_true]; exact hl1p.out
          ·simp only [if_true]; exact told_upd (by omega) hqIb.out htl.out
         ·obtain ⟨av, g1, g2, g3, g4, g5, g6⟩ := hagsT.out h hh
          refine ⟨av, by rw [List.getElem?_set_ne (fun e' => e e'.symm)]; exact g1, ?_, fun c hc => g3 c (by rcases hc with h | h | h <;> simp [h]), ?_, ?_, ?_⟩
          ·simp only [if_neg e]; exact g2.via key (fun c hc => g3 c (by rcases hc with h | h | h <;> simp [h])) zz
          ·simp only [if_neg e]; omega
          ·simp only [if_neg e]; exact g5
          ·simp only [if_neg e]; exact told_set e hqIb.out g6
        clear fR fA fN oH oR oA
        (repeat' first
  | ((with_reducible refine at_row ?_); refine row1_a fun _ _ _ _ _ _ _ => ?_)
  | with_reducible first | (first | apply alloc_k | apply row_k); intro _ _ _ _ _ _ | (first | apply fork | apply forkp) <;> intro _ | refine forke (fun _ => ?_) fun _ _ => ?_ | refine tail_k fun _ _ _ => ?_ | refine ext_k fun _ _ _ => ?_ | refine need_a ?_ | refine st_agg KR rfl ON fun _ _ _ _ => ?_ | refine wpd_q_a ?_
  | simp (maxDischargeDepth := 3) only [↓X, ↓Y, ↓Q, S1, ↓reduceIte, Nat.reduceEqDiff, Nat.reduceAdd, Int.reduceLT, Int.reduceLE, Int.reduceNeg, Int.reduceBEq, Int.reduceBNe, Int.reduceEq, Nat.reduceLeDiff, Nat.reduceMul, Nat.reduceLT, *]
  | simp (singlePass := true) (maxDischargeDepth := 99) only [*, S2, Nat.reduceLT])
        refine next_g hj hjt ?_
        (repeat' first
  | ((with_reducible refine at_row ?_); refine row1_a fun _ _ _ _ _ _ _ => ?_)
  | with_reducible first | (first | apply alloc_k | apply row_k); intro _ _ _ _ _ _ | (first | apply fork | apply forkp) <;> intro _ | refine forke (fun _ => ?_) fun _ _ => ?_ | refine tail_k fun _ _ _ => ?_ | refine ext_k fun _ _ _ => ?_ | refine need_a ?_ | refine st_agg KR rfl ON fun _ _ _ _ => ?_ | refine wpd_q_a ?_
  | simp (maxDischargeDepth := 3) only [↓X, ↓Y, ↓Q, S1, ↓reduceIte, Nat.reduceEqDiff, Nat.reduceAdd, Int.reduceLT, Int.reduceLE, Int.reduceNeg, Int.reduceBEq, Int.reduceBNe, Int.reduceEq, Nat.reduceLeDiff, Nat.reduceMul, Nat.reduceLT, *]
  | simp (singlePass := true) (maxDischargeDepth := 99) only [*, S2, Nat.reduceLT])
        all_goals exact FF
end
end Go.Proofs.YtblegjdogmcgbaaGreat
