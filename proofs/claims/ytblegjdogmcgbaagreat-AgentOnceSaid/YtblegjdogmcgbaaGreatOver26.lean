
/- What the statements AgentOver and AgentOnce begin with; a store of a struct into a part of a block. -/
import Derived.Test.YtblegjdogmcgbaaGreatLaw26a
import Derived.Test.YtblegjdogmcgbaaGreatPure26
namespace Go.Proofs.YtblegjdogmcgbaaGreat
set_option linter.unusedSimpArgs false
set_option linter.unusedVariables false
open Go Go.RowKit
set_option maxRecDepth 100000
set_option linter.unusedSectionVars false
set_option maxHeartbeats 4000000
section
variable {P : Program} {w w' : World} {b off : Nat} {t : TypeId} {cs : List Value}
theorem storeCells_at {P : Program} {b off : Nat} {t : TypeId} : ∀ (vs : List Value) (i : Nat) (w : World) (cs : List Value), Blk w b t cs → off + i + vs.length ≤ cs.length → (∀ v ∈ vs, v.oneCell' = true) →
  ∃ w', (storeCells ⟨b, off, none⟩ vs i).run P w = .ok () w' ∧ Blk w' b t (putAt cs (off + i) vs) ∧ Chg w w' b := by
 intro vs
 induction vs with
 | nil => intro i w cs hb _ _; exact ⟨w, rfl, hb, ⟨rfl, rfl, rfl, Nat.le_refl _, fun _ _ _ => rfl⟩⟩
 | cons v vs ih =>
  intro i w cs hb hl h1
  simp only [List.length_cons] at hl
  have hadd : (⟨b, off, none⟩ : Addr).add i = ⟨b, off + i, none⟩ := add_none _ _ _
  have hc : w.cell? ⟨b, off + i, none⟩ = some (cs[off + i]'(by omega)) := by rw [hb.cell]; exact List.getElem?_eq_getElem (by omega)
  obtain ⟨w', hr, hb', hx⟩ := ih (i + 1) (w.setCell ⟨b, off + i, none⟩ v) (cs.set (off + i) v) (hb.set (off + i) v) (by rw [List.length_set]; omega) (fun u hu => h1 u (List.mem_cons_of_mem _ hu))
  have hx1 := chg_set w b (off + i) v
  refine ⟨w', ?_, hb', ⟨hx.os.trans hx1.os, hx.tape.trans hx1.tape, hx.output.trans hx1.output, Nat.le_trans hx1.size hx.size, fun k hk hne => (hx.block k (Nat.lt_of_lt_of_le hk hx1.size) hne).trans (hx1.block k hk hne)⟩⟩
  simp only [storeCells, Sem.run_bind, hadd, run_store _ _ _ _ _ (h1 v (List.mem_cons_self ..)), hc, hb.frozen (off + i), Bool.false_eq_true, if_false, Result.andThen_ok]
  exact hr
theorem storeAggAt_intro {t' : TypeId} {vs : List Value} {f : World → Prop} (ht : tyK P t' = some (some vs.length)) (hb : Blk w b t cs) (hl : off + vs.length ≤ cs.length) (hv : ∀ v ∈ vs, v.oneCell' = true)
  (h : ∀ w', Blk w' b t (putAt cs off vs) → Chg w w' b → f w') : storeX P t' (.pointer (some ⟨b, off, none⟩)) (.agg vs.toArray) w f := by
 obtain ⟨ti, h1, h2⟩ := tyK_agg ht
 obtain ⟨w', hr, hb', hx⟩ := storeCells_at (P := P) (off := off) vs 0 w cs hb (by omega) hv
 unfold storeX
 have : (Instr.storeAt t' (.pointer (some ⟨b, off, none⟩)) (.agg vs.toArray)).run P w = .ok () w' := by
  simp [Instr.storeAt, Instr.sureAddr, storeVar, Value.cells, run_sizeOf' h1, h2]
  exact hr
 rw [this]
 exact h _ hb' hx
theorem st_aggAt {t' : TypeId} {vs : List Value} {f : World → Prop} (ht : tyK Tryz.prog t' = some (some vs.length)) (hl : off + vs.length ≤ cs.length) (hv : ∀ v ∈ vs, v.oneCell' = true)
  (h : ∀ w', Now w' → Bk w' b t (putAt cs off vs) → Sc w w' b → f w') : stX b t cs t' (.pointer (some ⟨b, off, none⟩)) (.agg vs.toArray) w f := by
 intro hb
 exact storeAggAt_intro ht hb hl hv fun w' hb' hc => h w' trivial hb'.bk hc.sc
end
section
variable {w : World} {B : Nat} {u : SiteVs} {s : SiteD} {wv hv rv : Value} {sl : List SrvV} {x : WorldD}
theorem tbn_of {X : Nat → Prop} {w w' : World} (hb : Bl 0 w w') (h : ∀ b, b < w.heap.size → ¬ X b → Kp b w w') (hs : w.heap.size ≤ w'.heap.size) : TBn X w w' := ⟨hb.2.os, hb.2.tape, hb.2.output, hs, fun b hb' hn => (h b hb' hn).2⟩
/-- A slice that is not empty lies elsewhere. -/
def NB (v : Value) (b : Nat) : Prop := 0 < lenN v → ¬ blockOf v = some b
theorem Sl.via {X : Nat → Prop} {w w' : World} {sz : Nat} {k : Option Nat} {v : Value} {xs : List Value} (h : Sl w w.heap.size k sz v xs) (key : ∀ c, c < w.heap.size → ¬ X c → Kp c w w') (hne : ∀ c, X c → NB v c) (hs : w.heap.size ≤ w'.heap.size) : Sl w' w'.heap.size k sz v xs :=
 (h.vp fun c hc hl => key c (h.lt c hc (by rw [← h.len]; exact hl)) fun e => hne c e hl hc).more hs
theorem WorldR.via {X : Nat → Prop} {w w' : World} {hv rv : Value} {x : WorldD} (h : WorldR w w.heap.size hv rv x) (key : ∀ c, c < w.heap.size → ¬ X c → Kp c w w') (hne : ∀ c, X c → NB hv c ∧ NB rv c) (hs : w.heap.size ≤ w'.heap.size) : WorldR w' w'.heap.size hv rv x :=
 ⟨h.1.via key (fun c hc => (hne c hc).1) hs, h.2.via key (fun c hc => (hne c hc).2) hs⟩
theorem Sl.sub {w : World} {B n m off : Nat} {v : Value} {xs : List Value} (h : Sl w B (some n) n v xs) {i : Nat} (hi : i < xs.length) (hm : off + m ≤ n) : rdv (some m) w (addF (elemAt v n i) off) = some (.agg (((cellsL xs[i]).drop off).take m).toArray) := by
 have hp := h.ptr hi
 have hr := h.rd i hi
 have hf : ∀ o, o < n → rdv none w (addF (elemAt v n i) o) = (cellsL xs[i])[o]? := fun o ho => h.fld hi ho
 cases he : elemAt v n i with
 | pointer a => cases a with
  | some a =>
   rw [he] at hr hf
   have hr' : (rdN w a 0 n).map (fun l => Value.agg l.toArray) = some xs[i] := hr
   rw [Option.map_eq_some_iff] at hr'
   obtain ⟨l, hl, hx⟩ := hr'
   obtain ⟨h3, h4⟩ := rdN_some hl
   have hc : cellsL xs[i] = l := by rw [← hx]; simp [cellsL]
   rw [hc] at hf ⊢
   show (rdN w (a.add off) 0 m).map (fun l => Value.agg l.toArray) = _
   have key : ∀ (m o : Nat), o + m ≤ n → rdN w a o m = some ((l.drop o).take m) := by
    intro m
    induction m with
    | zero => intro o _; simp [rdN]
    | succ m ih =>
     intro o ho
     have hlt : o < l.length := by omega
     have h6 : w.cell? (a.add o) = some l[o] := by
      have := h4 o l[o] (List.getElem?_eq_getElem hlt)
      rwa [Nat.zero_add] at this
     simp only [rdN, h6, ih (o + 1) (by omega)]
     rw [List.drop_eq_getElem_cons hlt, List.take_succ_cons]
   have shift : ∀ (m o : Nat), rdN w (a.add off) o m = rdN w a (off + o) m := by
    intro m
    induction m with
    | zero => intro o; rfl
    | succ m ih =>
     intro o
     have ha : (a.add off).add o = a.add (off + o) := by
      unfold Addr.add
      split <;> split <;> simp_all [Nat.add_assoc]
     simp only [rdN, ih (o + 1), ha, Nat.add_assoc]
   rw [shift, Nat.add_zero, key m off hm]
   rfl
  | none => rw [he] at hp; exact hp.elim
 | _ => rw [he] at hp; exact hp.elim
theorem Own.nb {w : World} {B e sz b : Nat} {v : Value} {cs : List (List Value)} (h : Own w B e sz v cs) (hb : b < B) : NB v b := fun _ => h.far hb
theorem Sl.nb {w : World} {B b sz : Nat} {k : Option Nat} {v : Value} {xs : List Value} (h : Sl w B k sz v xs) (hb : B ≤ b) : NB v b := fun hl hc => by
 have := h.lt b hc (by rw [← h.len]; exact hl)
 omega
/-- The cells of a run. -/
def runC (u : SiteVs) (s : SiteD) (wv hv rv ag : Value) (now : Int) : List Value := [u.f, u.b, u.l, u.r, intV s.switches, u.k, u.h, wv, hv, rv, ag, intV now]
theorem flat_rep {α : Type} (n : Nat) (a : α) : (List.replicate n [a]).flatten = List.replicate n a := by
 induction n with
 | zero => rfl
 | succ n ih => rw [List.replicate_succ, List.replicate_succ, List.flatten_cons, ih]; rfl
theorem law26begin (hB : B ≤ w.heap.size) (hs : SiteR w B u s) (hl : WishR w B wv sl) (hx0 : WorldR w B hv rv x) : CallsV Tryz.prog 17 #[.agg (siteC u s).toArray, .agg #[wv], .agg #[hv, rv]] w fun v w' => Ext w w' ∧ ((v = .tuple #[.pointer none, .bool false]) ∨
  (few26B s (sl.map (·.x)) x = true ∧ validB s (sl.map (·.x)) x = true ∧ ∃ bR bA, v = .tuple #[.pointer (some ⟨bR, 0, none⟩), .bool true] ∧ Blk w' bR 67 (runC u s wv hv rv (.slice (some ⟨bA, 0, none⟩) s.hosts.length s.hosts.length) 0) ∧ Blk w' bA 39 (List.replicate s.hosts.length (.slice none 0 0)) ∧ w.heap.size ≤ bR ∧ w.heap.size ≤ bA ∧ ¬ bR = bA)) := by
 have hn : Now w := trivial
 have hx : Ext w w := Ext.refl w
 have hs' := hs.sk hB
 have hl' := hl.sk hB
 have hx' := hx0.sk hB
 have hS := hs'.2.2.2.2.2.2
 have hW := hl'.2.2
 have hX := hx'.2.2.2.2
 have hf := fun w' (h1 : Bl B w w') (h3 : B ≤ w'.heap.size) => few26 h3 (hS w' h1) (hW w' h1) (hX w' h1)
 have hvd := fun w' (h1 : Bl B w w') (h3 : B ≤ w'.heap.size) => ref13Valid h3 (hS w' h1) (hW w' h1) (hX w' h1)
 have hfl : few26B s (sl.map (·.x)) x = true → Hid (s.hosts.length ≤ 20) := fun h => (few26_len h).2.2
 generalize few26B s (sl.map (·.x)) x = fb at hf hfl ⊢
 generalize validB s (sl.map (·.x)) x = vb at hvd ⊢
 (refine callsV_of Tryz.func17 rfl KR KR ?_; rw [Tryz.results17])
 cases fb
 ·(repeat' first
  | ((with_reducible refine at_row ?_); refine row1_a fun _ _ _ _ _ _ _ => ?_)
  | with_reducible first | (first | apply alloc_k | apply row_k); intro _ _ _ _ _ _ | (first | apply fork | apply forkp) <;> intro _ | refine forke (fun _ => ?_) fun _ _ => ?_ | refine tail_k fun _ _ _ => ?_ | refine ext_k fun _ _ _ => ?_ | refine need_a ?_ | refine st_agg KR rfl ON fun _ _ _ _ => ?_ | refine wpd_q_a ?_
  | ((with_reducible refine at_f 8 ?_); refine ret_k (hf _ FR FR) fun _ _ _ => ?_)
  | ((with_reducible refine at_f 24 ?_); refine ret_k (hvd _ FR FR) fun _ _ _ => ?_)
  | simp (maxDischargeDepth := 3) only [↓X, ↓Y, ↓Q, S1, ↓reduceIte, Nat.reduceEqDiff, Nat.reduceAdd, Int.reduceLT, Int.reduceLE, Int.reduceNeg, Int.reduceBEq, Int.reduceBNe, Int.reduceEq, Nat.reduceLeDiff, Nat.reduceMul, Nat.reduceLT, *, siteC]
  | simp (singlePass := true) (maxDischargeDepth := 99) only [*, S2, Nat.reduceLT, siteC])
  all_goals exact .inl trivial
 cases vb
 ·(repeat' first
  | ((with_reducible refine at_row ?_); refine row1_a fun _ _ _ _ _ _ _ => ?_)
  | with_reducible first | (first | apply alloc_k | apply row_k); intro _ _ _ _ _ _ | (first | apply fork | apply forkp) <;> intro _ | refine forke (fun _ => ?_) fun _ _ => ?_ | refine tail_k fun _ _ _ => ?_ | refine ext_k fun _ _ _ => ?_ | refine need_a ?_ | refine st_agg KR rfl ON fun _ _ _ _ => ?_ | refine wpd_q_a ?_
  | ((with_reducible refine at_f 8 ?_); refine ret_k (hf _ FR FR) fun _ _ _ => ?_)
  | ((with_reducible refine at_f 24 ?_); refine ret_k (hvd _ FR FR) fun _ _ _ => ?_)
  | simp (maxDischargeDepth := 3) only [↓X, ↓Y, ↓Q, S1, ↓reduceIte, Nat.reduceEqDiff, Nat.reduceAdd, Int.reduceLT, Int.reduceLE, Int.reduceNeg, Int.reduceBEq, Int.reduceBNe, Int.reduceEq, Nat.reduceLeDiff, Nat.reduceMul, Nat.reduceLT, *, siteC]
  | simp (singlePass := true) (maxDischargeDepth := 99) only [*, S2, Nat.reduceLT, siteC])
  all_goals exact .inl trivial
 have hn20 := hfl rfl
 clear hfl
 (repeat' first
  | ((with_reducible refine wpd_at 3 ?_); refine wpd_hold ?_)
  | ((with_reducible refine at_row ?_); refine row1_a fun _ _ _ _ _ _ _ => ?_)
  | with_reducible first | (first | apply alloc_k | apply row_k); intro _ _ _ _ _ _ | (first | apply fork | apply forkp) <;> intro _ | refine forke (fun _ => ?_) fun _ _ => ?_ | refine tail_k fun _ _ _ => ?_ | refine ext_k fun _ _ _ => ?_ | refine need_a ?_ | refine st_agg KR rfl ON fun _ _ _ _ => ?_ | refine wpd_q_a ?_
  | ((with_reducible refine at_f 8 ?_); refine ret_k (hf _ FR FR) fun _ _ _ => ?_)
  | ((with_reducible refine at_f 24 ?_); refine ret_k (hvd _ FR FR) fun _ _ _ => ?_)
  | simp (maxDischargeDepth := 3) only [↓X, ↓Y, ↓Q, S1, ↓reduceIte, Nat.reduceEqDiff, Nat.reduceAdd, Int.reduceLT, Int.reduceLE, Int.reduceNeg, Int.reduceBEq, Int.reduceBNe, Int.reduceEq, Nat.reduceLeDiff, Nat.reduceMul, Nat.reduceLT, *, siteC]
  | simp (singlePass := true) (maxDischargeDepth := 99) only [*, S2, Nat.reduceLT, siteC])
 rename_i b4 v4 u4 k4 t4 q4 b5 v5 u5 k5 t5 q5 b6 v6 u6 k6 t6 q6 wa na sa wc nc sc
 unfold wpdH
 refine wpd_rel 9 (fun iI v w9 => match iI with
  | 0 => v = .agg (siteC u s).toArray
  | 1 => v = .agg #[wv]
  | 2 => v = .agg #[hv, rv]
  | 3 => v = .pointer (some ⟨b4, 6, none⟩)
  | 4 => v = u.h
  | 5 => v = .int .i64 s.hosts.length
  | 6 => ∃ b, v = .slice (some ⟨b, 0, none⟩) s.hosts.length s.hosts.length ∧ Blk w9 b 39 (List.replicate s.hosts.length (.slice none 0 0)) ∧ wc.heap.size ≤ b
  | 7 => ∃ b, v = .agg (runC u s wv hv rv (.slice (some ⟨b, 0, none⟩) s.hosts.length s.hosts.length) 0).toArray ∧ Blk w9 b 39 (List.replicate s.hosts.length (.slice none 0 0)) ∧ wc.heap.size ≤ b
  | 8 => ∃ bR b, v = .pointer (some ⟨bR, 0, none⟩) ∧ Blk w9 bR 67 (runC u s wv hv rv (.slice (some ⟨b, 0, none⟩) s.hosts.length s.hosts.length) 0) ∧ Blk w9 b 39 (List.replicate s.hosts.length (.slice none 0 0)) ∧ wc.heap.size ≤ bR ∧ wc.heap.size ≤ b ∧ ¬ bR = b
  | _ => False) KR KR KR ?_ ?_ ?_
 ·intro iI v w1 w2 hR hx9
  match iI, hR with
  | 0, h => exact h
  | 1, h => exact h
  | 2, h => exact h
  | 3, h => exact h
  | 4, h => exact h
  | 5, h => exact h
  | 6, h => exact (let ⟨b, e, k, q⟩ := h; ⟨b, e, k.ext hx9, q⟩)
  | 7, h => exact (let ⟨b, e, k, q⟩ := h; ⟨b, e, k.ext hx9, q⟩)
  | 8, h => exact (let ⟨bR, b, e, k, k2, q⟩ := h; ⟨bR, b, e, k.ext hx9, k2.ext hx9, q⟩)
 ·intro iI oO hi ho gF w9 hx9 hdep hag
  have s9 := hx9.st
  have n9 : Now w9 := trivial
  have r9 := Ext.refl w9
  have z9 := hx9.size
  rcases iI with _|_|_|_|_|_|_|_|_|iI
  ·have e := Option.some.inj ho
   subst e
   have a3 := hag.at 3 KR
   simp only [S5, ↓reduceIte, Nat.reduceEqDiff, initF, *] at a3
   clear hag hdep ho
   refine relStep_off rfl ?_
   (repeat' first
  | ((with_reducible refine at_row ?_); refine row1_a fun _ _ _ _ _ _ _ => ?_)
  | with_reducible first | (first | apply alloc_k | apply row_k); intro _ _ _ _ _ _ | (first | apply fork | apply forkp) <;> intro _ | refine forke (fun _ => ?_) fun _ _ => ?_ | refine tail_k fun _ _ _ => ?_ | refine ext_k fun _ _ _ => ?_ | refine need_a ?_ | refine st_agg KR rfl ON fun _ _ _ _ => ?_ | refine wpd_q_a ?_
  | simp (maxDischargeDepth := 3) only [↓X, ↓Y, ↓Q, S1, ↓reduceIte, Nat.reduceEqDiff, Nat.reduceAdd, Int.reduceLT, Int.reduceLE, Int.reduceNeg, Int.reduceBEq, Int.reduceBNe, Int.reduceEq, Nat.reduceLeDiff, Nat.reduceMul, Nat.reduceLT, *, siteC]
  | simp (singlePass := true) (maxDischargeDepth := 99) only [*, S2, Nat.reduceLT, siteC])
  ·have e := Option.some.inj ho
   subst e
   have a4 := hag.at 4 KR
   simp only [S5, ↓reduceIte, Nat.reduceEqDiff, initF, *] at a4
   clear hag hdep ho
   refine relStep_off rfl ?_
   (repeat' first
  | ((with_reducible refine at_row ?_); refine row1_a fun _ _ _ _ _ _ _ => ?_)
  | with_reducible first | (first | apply alloc_k | apply row_k); intro _ _ _ _ _ _ | (first | apply fork | apply forkp) <;> intro _ | refine forke (fun _ => ?_) fun _ _ => ?_ | refine tail_k fun _ _ _ => ?_ | refine ext_k fun _ _ _ => ?_ | refine need_a ?_ | refine st_agg KR rfl ON fun _ _ _ _ => ?_ | refine wpd_q_a ?_
  | simp (maxDischargeDepth := 3) only [↓X, ↓Y, ↓Q, S1, ↓reduceIte, Nat.reduceEqDiff, Nat.reduceAdd, Int.reduceLT, Int.reduceLE, Int.reduceNeg, Int.reduceBEq, Int.reduceBNe, Int.reduceEq, Nat.reduceLeDiff, Nat.reduceMul, Nat.reduceLT, *, siteC]
  | simp (singlePass := true) (maxDischargeDepth := 99) only [*, S2, Nat.reduceLT, siteC])
  ·have e := Option.some.inj ho
   subst e
   have a5 := hag.at 5 KR
   simp only [S5, ↓reduceIte, Nat.reduceEqDiff, initF, *] at a5
   clear hag hdep ho
   refine relStep_off rfl ?_
   (repeat' first
  | ((with_reducible refine at_row ?_); refine row1_a fun _ _ _ _ _ _ _ => ?_)
  | with_reducible first | (first | apply alloc_k | apply row_k); intro _ _ _ _ _ _ | (first | apply fork | apply forkp) <;> intro _ | refine forke (fun _ => ?_) fun _ _ => ?_ | refine tail_k fun _ _ _ => ?_ | refine ext_k fun _ _ _ => ?_ | refine need_a ?_ | refine st_agg KR rfl ON fun _ _ _ _ => ?_ | refine wpd_q_a ?_
  | simp (maxDischargeDepth := 3) only [↓X, ↓Y, ↓Q, S1, ↓reduceIte, Nat.reduceEqDiff, Nat.reduceAdd, Int.reduceLT, Int.reduceLE, Int.reduceNeg, Int.reduceBEq, Int.reduceBNe, Int.reduceEq, Nat.reduceLeDiff, Nat.reduceMul, Nat.reduceLT, *, siteC]
  | simp (singlePass := true) (maxDischargeDepth := 99) only [*, S2, Nat.reduceLT, siteC])
  ·have e := Option.some.inj ho
   subst e
   have a3 := hag.at 3 KR
   simp only [S5, ↓reduceIte, Nat.reduceEqDiff, initF, *] at a3
   clear hag hdep ho
   refine relStep_off rfl ?_
   (repeat' first
  | ((with_reducible refine at_row ?_); refine row1_a fun _ _ _ _ _ _ _ => ?_)
  | with_reducible first | (first | apply alloc_k | apply row_k); intro _ _ _ _ _ _ | (first | apply fork | apply forkp) <;> intro _ | refine forke (fun _ => ?_) fun _ _ => ?_ | refine tail_k fun _ _ _ => ?_ | refine ext_k fun _ _ _ => ?_ | refine need_a ?_ | refine st_agg KR rfl ON fun _ _ _ _ => ?_ | refine wpd_q_a ?_
  | simp (maxDischargeDepth := 3) only [↓X, ↓Y, ↓Q, S1, ↓reduceIte, Nat.reduceEqDiff, Nat.reduceAdd, Int.reduceLT, Int.reduceLE, Int.reduceNeg, Int.reduceBEq, Int.reduceBNe, Int.reduceEq, Nat.reduceLeDiff, Nat.reduceMul, Nat.reduceLT, *, siteC]
  | simp (singlePass := true) (maxDischargeDepth := 99) only [*, S2, Nat.reduceLT, siteC])
  ·have e := Option.some.inj ho
   subst e
   have d3 : (gF 23) = .pointer (some ⟨b4, 6, none⟩) := hdep ⟨3, .data⟩ (by simp) rfl _ _ rfl rfl
   clear hag hdep ho
   refine relStep_off rfl ?_
   (repeat' first
  | ((with_reducible refine at_row ?_); refine row1_a fun _ _ _ _ _ _ _ => ?_)
  | with_reducible first | (first | apply alloc_k | apply row_k); intro _ _ _ _ _ _ | (first | apply fork | apply forkp) <;> intro _ | refine forke (fun _ => ?_) fun _ _ => ?_ | refine tail_k fun _ _ _ => ?_ | refine ext_k fun _ _ _ => ?_ | refine need_a ?_ | refine st_agg KR rfl ON fun _ _ _ _ => ?_ | refine wpd_q_a ?_
  | simp (maxDischargeDepth := 3) only [↓X, ↓Y, ↓Q, S1, ↓reduceIte, Nat.reduceEqDiff, Nat.reduceAdd, Int.reduceLT, Int.reduceLE, Int.reduceNeg, Int.reduceBEq, Int.reduceBNe, Int.reduceEq, Nat.reduceLeDiff, Nat.reduceMul, Nat.reduceLT, *, siteC]
  | simp (singlePass := true) (maxDischargeDepth := 99) only [*, S2, Nat.reduceLT, siteC])
  ·have e := Option.some.inj ho
   subst e
   have d4 : (gF 24) = u.h := hdep ⟨4, .data⟩ (by simp) rfl _ _ rfl rfl
   clear hag hdep ho
   refine relStep_off rfl ?_
   (repeat' first
  | ((with_reducible refine at_row ?_); refine row1_a fun _ _ _ _ _ _ _ => ?_)
  | with_reducible first | (first | apply alloc_k | apply row_k); intro _ _ _ _ _ _ | (first | apply fork | apply forkp) <;> intro _ | refine forke (fun _ => ?_) fun _ _ => ?_ | refine tail_k fun _ _ _ => ?_ | refine ext_k fun _ _ _ => ?_ | refine need_a ?_ | refine st_agg KR rfl ON fun _ _ _ _ => ?_ | refine wpd_q_a ?_
  | simp (maxDischargeDepth := 3) only [↓X, ↓Y, ↓Q, S1, ↓reduceIte, Nat.reduceEqDiff, Nat.reduceAdd, Int.reduceLT, Int.reduceLE, Int.reduceNeg, Int.reduceBEq, Int.reduceBNe, Int.reduceEq, Nat.reduceLeDiff, Nat.reduceMul, Nat.reduceLT, *, siteC]
  | simp (singlePass := true) (maxDischargeDepth := 99) only [*, S2, Nat.reduceLT, siteC])
  ·have e := Option.some.inj ho
   subst e
   have d5 : (gF 25) = .int .i64 s.hosts.length := hdep ⟨5, .data⟩ (by simp) rfl _ _ rfl rfl
   clear hag hdep ho
   refine relStep_off rfl ?_
   (repeat' first
  | ((with_reducible refine at_row ?_); refine row1_a fun _ _ _ _ _ _ _ => ?_)
  | with_reducible first | (first | apply alloc_k | apply row_k); intro _ _ _ _ _ _ | (first | apply fork | apply forkp) <;> intro _ | refine forke (fun _ => ?_) fun _ _ => ?_ | refine tail_k fun _ _ _ => ?_ | refine ext_k fun _ _ _ => ?_ | refine need_a ?_ | refine st_agg KR rfl ON fun _ _ _ _ => ?_ | refine wpd_q_a ?_
  | simp (maxDischargeDepth := 3) only [↓X, ↓Y, ↓Q, S1, ↓reduceIte, Nat.reduceEqDiff, Nat.reduceAdd, Int.reduceLT, Int.reduceLE, Int.reduceNeg, Int.reduceBEq, Int.reduceBNe, Int.reduceEq, Nat.reduceLeDiff, Nat.reduceMul, Nat.reduceLT, *, siteC]
  | simp (singlePass := true) (maxDischargeDepth := 99) only [*, S2, Nat.reduceLT, siteC])
   refine mk_own_k (n := s.hosts.length) (z := .agg #[.slice none 0 0]) rfl (by decide) (by decide) (by have := hn20.out; omega) fun b1 w10 n10 hb1 s10 nw1 => ?_
   exact ⟨FR, b1, rfl, by have hh := hb1; simp only [cellsL] at hh; rw [flat_rep] at hh; exact hh, FR⟩
  ·have e := Option.some.inj ho
   subst e
   have d0 : (gF 20) = .agg (siteC u s).toArray := hdep ⟨0, .data⟩ (by simp) rfl _ _ rfl rfl
   have d1 : (gF 21) = .agg #[wv] := hdep ⟨1, .data⟩ (by simp) rfl _ _ rfl rfl
   have d2 : (gF 22) = .agg #[hv, rv] := hdep ⟨2, .data⟩ (by simp) rfl _ _ rfl rfl
   have d6 : ∃ b, (gF 26) = .slice (some ⟨b, 0, none⟩) s.hosts.length s.hosts.length ∧ Blk w9 b 39 (List.replicate s.hosts.length (.slice none 0 0)) ∧ wc.heap.size ≤ b := hdep ⟨6, .data⟩ (by simp) rfl _ _ rfl rfl
   obtain ⟨b16, e6, hb6, q6'⟩ := d6
   clear hag hdep ho
   refine relStep_off rfl ?_
   (repeat' first
  | ((with_reducible refine at_row ?_); refine row1_a fun _ _ _ _ _ _ _ => ?_)
  | with_reducible first | (first | apply alloc_k | apply row_k); intro _ _ _ _ _ _ | (first | apply fork | apply forkp) <;> intro _ | refine forke (fun _ => ?_) fun _ _ => ?_ | refine tail_k fun _ _ _ => ?_ | refine ext_k fun _ _ _ => ?_ | refine need_a ?_ | refine st_agg KR rfl ON fun _ _ _ _ => ?_ | refine wpd_q_a ?_
  | simp (maxDischargeDepth := 3) only [↓X, ↓Y, ↓Q, S1, ↓reduceIte, Nat.reduceEqDiff, Nat.reduceAdd, Int.reduceLT, Int.reduceLE, Int.reduceNeg, Int.reduceBEq, Int.reduceBNe, Int.reduceEq, Nat.reduceLeDiff, Nat.reduceMul, Nat.reduceLT, *, siteC]
  | simp (singlePass := true) (maxDischargeDepth := 99) only [*, S2, Nat.reduceLT, siteC])
   exact ⟨b16, rfl, hb6, q6'⟩
  ·have e := Option.some.inj ho
   subst e
   have d7 : ∃ b, (gF 27) = .agg (runC u s wv hv rv (.slice (some ⟨b, 0, none⟩) s.hosts.length s.hosts.length) 0).toArray ∧ Blk w9 b 39 (List.replicate s.hosts.length (.slice none 0 0)) ∧ wc.heap.size ≤ b := hdep ⟨7, .data⟩ (by simp) rfl _ _ rfl rfl
   obtain ⟨b17, e7, hb7, q7'⟩ := d7
   clear hag hdep ho
   refine relStep_off rfl ?_
   (repeat' first
  | ((with_reducible refine at_row ?_); refine row1_a fun _ _ _ _ _ _ _ => ?_)
  | with_reducible first | (first | apply alloc_k | apply row_k); intro _ _ _ _ _ _ | (first | apply fork | apply forkp) <;> intro _ | refine forke (fun _ => ?_) fun _ _ => ?_ | refine tail_k fun _ _ _ => ?_ | refine ext_k fun _ _ _ => ?_ | refine need_a ?_ | refine st_agg KR rfl ON fun _ _ _ _ => ?_ | refine wpd_q_a ?_
  | simp (maxDischargeDepth := 3) only [↓X, ↓Y, ↓Q, S1, ↓reduceIte, Nat.reduceEqDiff, Nat.reduceAdd, Int.reduceLT, Int.reduceLE, Int.reduceNeg, Int.reduceBEq, Int.reduceBNe, Int.reduceEq, Nat.reduceLeDiff, Nat.reduceMul, Nat.reduceLT, *, siteC]
  | simp (singlePass := true) (maxDischargeDepth := 99) only [*, S2, Nat.reduceLT, siteC])
   rename_i b10 w10 n10 k10 s10 q10
   exact ⟨b10, b17, rfl, k10.2.1 _ k10.2.2.1, hb7.ext (s10.2.2.1 _ r9), FR, q7', fun e => absurd (e ▸ (show b17 < w9.heap.size from hb7.lt)) (Nat.not_lt.2 (q10.2.1 _ (Nat.le_refl _)))⟩
  ·omega
 ·intro g9 w9 hx9 hR hag
  have s9 := hx9.st
  have n9 : Now w9 := trivial
  have r9 := Ext.refl w9
  have z9 := hx9.size
  have d8 : ∃ bR b, (g9 28) = .pointer (some ⟨bR, 0, none⟩) ∧ Blk w9 bR 67 (runC u s wv hv rv (.slice (some ⟨b, 0, none⟩) s.hosts.length s.hosts.length) 0) ∧ Blk w9 b 39 (List.replicate s.hosts.length (.slice none 0 0)) ∧ wc.heap.size ≤ bR ∧ wc.heap.size ≤ b ∧ ¬ bR = b := hR 8 _ _ (by decide) rfl rfl
  obtain ⟨bR, bA, e8, hbR, hbA, r1, r2, r3⟩ := d8
  clear hag hR
  simp only [List.drop_succ_cons, List.drop_zero]
  (repeat' first
  | ((with_reducible refine at_row ?_); refine row1_a fun _ _ _ _ _ _ _ => ?_)
  | with_reducible first | (first | apply alloc_k | apply row_k); intro _ _ _ _ _ _ | (first | apply fork | apply forkp) <;> intro _ | refine forke (fun _ => ?_) fun _ _ => ?_ | refine tail_k fun _ _ _ => ?_ | refine ext_k fun _ _ _ => ?_ | refine need_a ?_ | refine st_agg KR rfl ON fun _ _ _ _ => ?_ | refine wpd_q_a ?_
  | simp (maxDischargeDepth := 3) only [↓X, ↓Y, ↓Q, S1, ↓reduceIte, Nat.reduceEqDiff, Nat.reduceAdd, Int.reduceLT, Int.reduceLE, Int.reduceNeg, Int.reduceBEq, Int.reduceBNe, Int.reduceEq, Nat.reduceLeDiff, Nat.reduceMul, Nat.reduceLT, *]
  | simp (singlePass := true) (maxDischargeDepth := 99) only [*, S2, Nat.reduceLT])
  exact .inr ⟨bR, bA, rfl, hbR, hbA, Nat.le_trans FR r1, Nat.le_trans FR r2, r3⟩
end
end Go.Proofs.YtblegjdogmcgbaaGreat
