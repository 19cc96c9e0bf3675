/- The layer world: Start. -/
import Derived.Test.YtbfmabkdggllhaaIns13
import Derived.Test.YtbfmabkdggllhaaRel2
namespace Go.Proofs.Ytbfmabkdggllhaa
set_option linter.unusedSimpArgs false
set_option linter.unusedVariables false
open Go Go.RowKit
set_option maxRecDepth 100000
set_option linter.unusedSectionVars false
set_option maxHeartbeats 1000000
theorem ord_trans {a b c : ReplicaD} (h1 : ordI a b < 0) (h2 : ordI b c < 0) : ordI a c < 0 := by
  simp only [ordI, cmpI] at *
  (repeat' split at h1) <;> (repeat' split at h2) <;> (repeat' split) <;> omega
/-- Where a replica belongs. -/
def posI (r : ReplicaD) (l : List ReplicaD) : Nat := (l.takeWhile (ltB r)).length
theorem posI_le (r : ReplicaD) (l : List ReplicaD) : posI r l ≤ l.length := List.Sublist.length_le (List.takeWhile_sublist _)
theorem takeWhile_pos (p : ReplicaD → Bool) : ∀ l : List ReplicaD, l.takeWhile p = l.take (l.takeWhile p).length ∧ (∀ h : (l.takeWhile p).length < l.length, p l[(l.takeWhile p).length] = false) ∧ l.dropWhile p = l.drop (l.takeWhile p).length
  | [] => by simp
  | a :: l => by
    obtain ⟨h1, h2, h3⟩ := takeWhile_pos p l
    cases e : p a with
    | true =>
      have e1 : (a :: l).takeWhile p = a :: l.takeWhile p := by simp [List.takeWhile_cons, e]
      have e2 : (a :: l).dropWhile p = l.dropWhile p := by simp [List.dropWhile_cons, e]
      rw [e1, e2]
      refine ⟨by rw [List.length_cons, List.take_succ_cons, ← h1], fun h => ?_, by rw [List.length_cons, List.drop_succ_cons]; exact h3⟩
      have := h2 (by simpa using h)
      simpa using this
    | false =>
      have e1 : (a :: l).takeWhile p = [] := by simp [List.takeWhile_cons, e]
      have e2 : (a :: l).dropWhile p = a :: l := by simp [List.dropWhile_cons, e]
      rw [e1, e2]
      exact ⟨rfl, fun _ => by simpa using e, rfl⟩
theorem mem_tw {p : ReplicaD → Bool} {a : ReplicaD} : ∀ {l : List ReplicaD}, a ∈ l.takeWhile p → p a = true
  | [], h => by simp at h
  | b :: l, h => by
    rw [List.takeWhile_cons] at h
    split at h
    · rename_i e
      rcases List.mem_cons.1 h with rfl | h
      · exact e
      · exact mem_tw h
    · cases h
theorem startL_pos (r : ReplicaD) (l : List ReplicaD) : startL r l = l.take (posI r l) ++ r :: l.drop (posI r l) := by
  obtain ⟨h1, _, h3⟩ := takeWhile_pos (ltB r) l
  unfold startL posI
  rw [← h1, h3]
theorem pos_below {r : ReplicaD} {l : List ReplicaD} (i : Nat) (h : i < l.length) (hi : i < posI r l) : ordI l[i] r < 0 := by
  have h1 := (takeWhile_pos (ltB r) l).1
  have hm : l[i] ∈ l.takeWhile (ltB r) := by
    rw [h1]
    exact List.mem_iff_getElem.2 ⟨i, by rw [List.length_take]; unfold posI at hi; omega, by rw [List.getElem_take]⟩
  have := mem_tw hm
  simpa [ltB] using this
theorem pos_above {r : ReplicaD} {l : List ReplicaD} (hs : sortedB l = true) : ∀ (i : Nat) (h : i < l.length), posI r l ≤ i → ¬ ordI l[i] r < 0 := by
  intro i
  induction i with
  | zero =>
    intro h hi
    have h2 := (takeWhile_pos (ltB r) l).2.1
    have e : posI r l = 0 := by omega
    unfold posI at e
    simp only [e] at h2
    simpa [ltB] using h2 h
  | succ i ih =>
    intro h hi
    rcases Nat.lt_or_eq_of_le hi with hlt | he
    · have h3 := ih (by omega) (by omega)
      have h4 := sortedB_iff.1 hs i h
      exact fun h5 => h3 (ord_trans h4 h5)
    · have h2 := (takeWhile_pos (ltB r) l).2.1
      unfold posI at he
      simp only [he] at h2
      simpa [ltB] using h2 h
/-- What a step gives that writes the block of a row, and makes new ones. -/
abbrev Sg (o : Option Nat) (w w' : World) : Prop := (∀ b a, Kp b a w → ¬ o = some b → Kp b a w') ∧ (∀ B a, Bl B a w → (∀ b, b < B → ¬ o = some b) → Bl B a w') ∧ (∀ b, b < w.heap.size → b < w'.heap.size) ∧ (∀ B, B ≤ w.heap.size → B ≤ w'.heap.size)
theorem sg_of {o : Option Nat} {w w' : World} (h : w.grownBy w' o) : Sg o w w' := by
  refine ⟨fun b a k hne => ⟨k.1, (h.block b k.lt (fun e => hne e.symm)).trans k.2⟩, fun B a k hb => ⟨k.1, ?_⟩, fun _ k => Nat.lt_of_lt_of_le k h.size, fun _ k => Nat.le_trans k h.size⟩
  exact k.2.trans ⟨h.os, h.tape, h.output, h.size, fun i hi => h.block i (Nat.lt_of_lt_of_le hi k.size) (fun e => hb i hi e.symm)⟩
section
variable {w : World} {B B' : Nat} {hv rv hv' rv' : Value} {x y : WorldD}
theorem worldStart {r : ReplicaD} (hB : B ≤ w.heap.size) (hx0 : WorldR w B hv rv x) (hl1 : x.hosts.length ≤ 1000000) (hl2 : x.replicas.length ≤ 1000000) : CallsV Try.prog 16 #[.agg #[hv, rv], replicaV r] w fun v w' => Ext w w' ∧ ∃ u, v = .tuple #[u, intV (startE x r)] ∧ OwnW w.heap.size u w' (startW x r) := by
  have hn : Now w := trivial
  have hx : Ext w w := Ext.refl w
  have hx' := hx0.sk hB
  have hX := hx'.2.2.2.2
  have hl1 : Hid _ := hl1
  have hl2 : Hid _ := hl2
  have hso := fun w' (hb : Bl B w w') (hB' : B ≤ w'.heap.size) => worldSorted hB' (WorldR.r (hX w' hb))
  have hha := fun w' (hb : Bl B w w') (hB' : B ≤ w'.heap.size) => worldHas (r := r) hB' (hX w' hb)
  by_cases hgood : startE x r = 0
  · have hc : sortedB x.replicas = true ∧ ¬ r.service < 0 ∧ ¬ r.host < 0 ∧ hasB x.replicas r = false ∧ ¬ 24 ≤ x.replicas.length := by
      unfold startE at hgood
      split at hgood
      · rename_i h
        split at hgood
        · cases hgood
        · rename_i h2
          split at hgood
          · cases hgood
          · rename_i h3
            exact ⟨h.1, by omega, by omega, by simpa using h2, h3⟩
      · cases hgood
    have hW : startW x r = ⟨x.hosts, startL r x.replicas⟩ := by simp [startW, hgood]
    rw [hgood, hW, startL_pos]
    obtain ⟨c1, c2, c3, c4, c5⟩ := hc
    have hbs := fun w' (hb : Bl B w w') (hB' : B ≤ w'.heap.size) => bsearchP hB' (WorldR.r (hX w' hb)) (posI_le r x.replicas) pos_below (pos_above c1) hl2.out
    have c2 : decide (r.service < 0) = false := by simpa using c2
    have c3 : decide (r.host < 0) = false := by simpa using c3
    have c5 : decide ((24 : Int) ≤ (x.replicas.length : Int)) = false := by simp; omega
    have hple : Hid _ := posI_le r x.replicas
    clear hgood hW
    (refine callsV_of Try.func16 rfl (by kernel_rfl) (by kernel_rfl) ?_; rw [Try.results16])
    generalize posI r x.replicas = p at *
    (repeat' first
    | ((with_reducible refine wpd_at 8 ?_); refine wpd_hold ?_)
    | with_reducible refine alloc_k fun _ _ _ _ _ _ => ?_
    | ((with_reducible refine at_row ?_); refine row1_k (by rfl) (by decide) fun _ _ _ _ _ _ _ => ?_)
    | with_reducible refine row_k fun _ _ _ _ _ _ => ?_
    | with_reducible refine fork (fun _ => ?_) (fun _ => ?_)
    | with_reducible refine forkp (fun _ => ?_) (fun _ => ?_)
    | with_reducible refine forke (fun _ => ?_) (fun _ _ => ?_)
    | with_reducible refine tail_k fun _ _ _ => ?_
    | with_reducible refine ext_k fun _ _ _ => ?_
    | with_reducible refine need (by first | kernel_rfl | omega | assumption) ?_
    | with_reducible refine st_agg (by kernel_rfl) rfl (by simp only [natV, intV, S3, *]) fun _ _ _ _ => ?_
    | with_reducible refine wpd_quiet_lit (by kernel_rfl) (by kernel_rfl) (by kernel_rfl) ?_
    | ((with_reducible refine at_f 48 ?_); refine ret_k (hso _ FR FR) fun _ _ _ => ?_)
    | ((with_reducible refine at_f 24 ?_); refine ret_k (hha _ FR FR) fun _ _ _ => ?_)
    | ((with_reducible refine at_f 55 ?_); refine ret_k (hbs _ FR FR) fun _ _ _ => ?_)
    | simp (maxDischargeDepth := 3) only [↓X, ↓Y, ↓Q, S1, ↓reduceIte, Nat.reduceEqDiff, Nat.reduceAdd, Int.reduceLT, Int.reduceLE, Int.reduceNeg, Int.reduceBEq, Int.reduceBNe, Int.reduceEq, Nat.reduceLeDiff, Nat.reduceMul, Nat.reduceLT, natV, intV, putAt, idxOk, flatP, *, replicaV]
    | simp (singlePass := true) (maxDischargeDepth := 99) only [*, S2, Nat.reduceLT, replicaV])
    rename_i b2 v2 u2 k2 t2 q2 b3 v3 u3 k3 t3 q3 b4 v4 u4 k4 t4 q4 va ua ta vb ub tb w7 n7 s7
    unfold wpdH
    refine wpd_rel2 8 (fun iI v w9 => match iI with
      | 0 => v = .agg #[hv, rv]
      | 1 => OwnH w9 w7.heap.size v x.hosts
      | 2 => v = .pointer (some ⟨b2, 1, none⟩)
      | 3 => v = rv
      | 4 => OwnP w9 w7.heap.size v x.replicas
      | 5 => v = .int .i64 p
      | 6 => v = replicaV r
      | 7 => ∃ b, v = .slice (some ⟨b, 0, none⟩) 1 1 ∧ Blk w9 b 41 (replC r) ∧ w7.heap.size ≤ b
      | _ => False) (fun iI => iI == 1 || iI == 4 || iI == 7) ?_ (by kernel_rfl) (by kernel_rfl) (by kernel_rfl) ?_ ?_ ?_
    · intro iI v w9 hF hR b hb
      match iI, hF, hR with
      | 0, hF, _ => exact absurd hF (by decide)
      | 1, _, h => exact (Own.lt h b (by rw [← Own.block h]; exact hb)).2
      | 2, hF, _ => exact absurd hF (by decide)
      | 3, hF, _ => exact absurd hF (by decide)
      | 4, _, h => exact (Own.lt h b (by rw [← Own.block h]; exact hb)).2
      | 5, hF, _ => exact absurd hF (by decide)
      | 6, hF, _ => exact absurd hF (by decide)
      | 7, _, ⟨b2, e, h1, _⟩ => subst e; obtain rfl := Option.some.inj hb; exact h1.lt
      | iI + 8, _, h => exact h.elim
    · intro iI v w1 w2 hR hx9
      match iI, hR with
      | 0, h => exact h
      | 1, h => exact Own.ext h hx9
      | 2, h => exact h
      | 3, h => exact h
      | 4, h => exact Own.ext h hx9
      | 5, h => exact h
      | 6, h => exact h
      | 7, ⟨b, e, h1, h2⟩ => exact ⟨b, e, h1.ext hx9, h2⟩
    · intro iI oO hi ho gF w9 hx9 hdep hag
      have s9 := hx9.st
      have n9 : Now w9 := trivial
      have r9 := Ext.refl w9
      have z9 := hx9.size
      rcases iI with _|_|_|_|_|_|_|_|iI
      · have e := Option.some.inj ho
        subst e
        have a2 := hag.at 2 (by kernel_rfl)
        simp only [U, ↓reduceIte, Nat.reduceEqDiff, initF, U2, List.getElem?_cons_zero, List.getElem?_cons_succ, *] at a2
        clear hag hdep ho
        refine ⟨fun _ => ?_, fun hF => absurd hF (by decide)⟩
        simp only [relStep, guardOn, if_true]
        (repeat' first
    | with_reducible refine alloc_k fun _ _ _ _ _ _ => ?_
    | ((with_reducible refine at_row ?_); refine row1_k (by rfl) (by decide) fun _ _ _ _ _ _ _ => ?_)
    | with_reducible refine row_k fun _ _ _ _ _ _ => ?_
    | with_reducible refine fork (fun _ => ?_) (fun _ => ?_)
    | with_reducible refine forkp (fun _ => ?_) (fun _ => ?_)
    | with_reducible refine forke (fun _ => ?_) (fun _ _ => ?_)
    | with_reducible refine tail_k fun _ _ _ => ?_
    | with_reducible refine ext_k fun _ _ _ => ?_
    | with_reducible refine need (by first | kernel_rfl | omega | assumption) ?_
    | with_reducible refine st_agg (by kernel_rfl) rfl (by simp only [natV, intV, S3, *]) fun _ _ _ _ => ?_
    | with_reducible refine wpd_quiet_lit (by kernel_rfl) (by kernel_rfl) (by kernel_rfl) ?_
    | simp (maxDischargeDepth := 3) only [↓X, ↓Y, ↓Q, S1, ↓reduceIte, Nat.reduceEqDiff, Nat.reduceAdd, Int.reduceLT, Int.reduceLE, Int.reduceNeg, Int.reduceBEq, Int.reduceBNe, Int.reduceEq, Nat.reduceLeDiff, Nat.reduceMul, Nat.reduceLT, natV, intV, putAt, idxOk, flatP, *, replicaV]
    | simp (singlePass := true) (maxDischargeDepth := 99) only [*, S2, Nat.reduceLT, replicaV])
      · have e := Option.some.inj ho
        subst e
        have d0 : (gF 42) = .agg #[hv, rv] := hdep ⟨0, .data⟩ (by simp) rfl _ _ rfl rfl
        clear hag hdep ho
        refine ⟨fun hF => absurd hF (by decide), fun _ => ?_⟩
        simp only [relStep, guardOn, if_true]
        (repeat' first
    | with_reducible refine alloc_k fun _ _ _ _ _ _ => ?_
    | ((with_reducible refine at_row ?_); refine row1_k (by rfl) (by decide) fun _ _ _ _ _ _ _ => ?_)
    | with_reducible refine row_k fun _ _ _ _ _ _ => ?_
    | with_reducible refine fork (fun _ => ?_) (fun _ => ?_)
    | with_reducible refine forkp (fun _ => ?_) (fun _ => ?_)
    | with_reducible refine forke (fun _ => ?_) (fun _ _ => ?_)
    | with_reducible refine tail_k fun _ _ _ => ?_
    | with_reducible refine ext_k fun _ _ _ => ?_
    | with_reducible refine need (by first | kernel_rfl | omega | assumption) ?_
    | with_reducible refine st_agg (by kernel_rfl) rfl (by simp only [natV, intV, S3, *]) fun _ _ _ _ => ?_
    | with_reducible refine wpd_quiet_lit (by kernel_rfl) (by kernel_rfl) (by kernel_rfl) ?_
    | simp (maxDischargeDepth := 3) only [↓X, ↓Y, ↓Q, S1, ↓reduceIte, Nat.reduceEqDiff, Nat.reduceAdd, Int.reduceLT, Int.reduceLE, Int.reduceNeg, Int.reduceBEq, Int.reduceBNe, Int.reduceEq, Nat.reduceLeDiff, Nat.reduceMul, Nat.reduceLT, natV, intV, putAt, idxOk, flatP, *, replicaV]
    | simp (singlePass := true) (maxDischargeDepth := 99) only [*, S2, Nat.reduceLT, replicaV])
        refine CallsV.mono (worldHosts (B := B) FR (hX _ FR) hl1.out) fun v w10 hh => ⟨hh.1, Own.more hh.2 z9, fun b hb => (Own.lt hh.2 b (by rw [← Own.block hh.2]; exact hb)).1⟩
      · have e := Option.some.inj ho
        subst e
        have a2 := hag.at 2 (by kernel_rfl)
        simp only [U, ↓reduceIte, Nat.reduceEqDiff, initF, U2, List.getElem?_cons_zero, List.getElem?_cons_succ, *] at a2
        clear hag hdep ho
        refine ⟨fun _ => ?_, fun hF => absurd hF (by decide)⟩
        simp only [relStep, guardOn, if_true]
        (repeat' first
    | with_reducible refine alloc_k fun _ _ _ _ _ _ => ?_
    | ((with_reducible refine at_row ?_); refine row1_k (by rfl) (by decide) fun _ _ _ _ _ _ _ => ?_)
    | with_reducible refine row_k fun _ _ _ _ _ _ => ?_
    | with_reducible refine fork (fun _ => ?_) (fun _ => ?_)
    | with_reducible refine forkp (fun _ => ?_) (fun _ => ?_)
    | with_reducible refine forke (fun _ => ?_) (fun _ _ => ?_)
    | with_reducible refine tail_k fun _ _ _ => ?_
    | with_reducible refine ext_k fun _ _ _ => ?_
    | with_reducible refine need (by first | kernel_rfl | omega | assumption) ?_
    | with_reducible refine st_agg (by kernel_rfl) rfl (by simp only [natV, intV, S3, *]) fun _ _ _ _ => ?_
    | with_reducible refine wpd_quiet_lit (by kernel_rfl) (by kernel_rfl) (by kernel_rfl) ?_
    | simp (maxDischargeDepth := 3) only [↓X, ↓Y, ↓Q, S1, ↓reduceIte, Nat.reduceEqDiff, Nat.reduceAdd, Int.reduceLT, Int.reduceLE, Int.reduceNeg, Int.reduceBEq, Int.reduceBNe, Int.reduceEq, Nat.reduceLeDiff, Nat.reduceMul, Nat.reduceLT, natV, intV, putAt, idxOk, flatP, *, replicaV]
    | simp (singlePass := true) (maxDischargeDepth := 99) only [*, S2, Nat.reduceLT, replicaV])
      · have e := Option.some.inj ho
        subst e
        have d2 : (gF 44) = .pointer (some ⟨b2, 1, none⟩) := hdep ⟨2, .data⟩ (by simp) rfl _ _ rfl rfl
        clear hag hdep ho
        refine ⟨fun _ => ?_, fun hF => absurd hF (by decide)⟩
        simp only [relStep, guardOn, if_true]
        (repeat' first
    | with_reducible refine alloc_k fun _ _ _ _ _ _ => ?_
    | ((with_reducible refine at_row ?_); refine row1_k (by rfl) (by decide) fun _ _ _ _ _ _ _ => ?_)
    | with_reducible refine row_k fun _ _ _ _ _ _ => ?_
    | with_reducible refine fork (fun _ => ?_) (fun _ => ?_)
    | with_reducible refine forkp (fun _ => ?_) (fun _ => ?_)
    | with_reducible refine forke (fun _ => ?_) (fun _ _ => ?_)
    | with_reducible refine tail_k fun _ _ _ => ?_
    | with_reducible refine ext_k fun _ _ _ => ?_
    | with_reducible refine need (by first | kernel_rfl | omega | assumption) ?_
    | with_reducible refine st_agg (by kernel_rfl) rfl (by simp only [natV, intV, S3, *]) fun _ _ _ _ => ?_
    | with_reducible refine wpd_quiet_lit (by kernel_rfl) (by kernel_rfl) (by kernel_rfl) ?_
    | simp (maxDischargeDepth := 3) only [↓X, ↓Y, ↓Q, S1, ↓reduceIte, Nat.reduceEqDiff, Nat.reduceAdd, Int.reduceLT, Int.reduceLE, Int.reduceNeg, Int.reduceBEq, Int.reduceBNe, Int.reduceEq, Nat.reduceLeDiff, Nat.reduceMul, Nat.reduceLT, natV, intV, putAt, idxOk, flatP, *, replicaV]
    | simp (singlePass := true) (maxDischargeDepth := 99) only [*, S2, Nat.reduceLT, replicaV])
      · have e := Option.some.inj ho
        subst e
        have d3 : (gF 45) = rv := hdep ⟨3, .data⟩ (by simp) rfl _ _ rfl rfl
        clear hag hdep ho
        refine ⟨fun hF => absurd hF (by decide), fun _ => ?_⟩
        simp only [relStep, guardOn, if_true]
        (repeat' first
    | with_reducible refine alloc_k fun _ _ _ _ _ _ => ?_
    | ((with_reducible refine at_row ?_); refine row1_k (by rfl) (by decide) fun _ _ _ _ _ _ _ => ?_)
    | with_reducible refine row_k fun _ _ _ _ _ _ => ?_
    | with_reducible refine fork (fun _ => ?_) (fun _ => ?_)
    | with_reducible refine forkp (fun _ => ?_) (fun _ => ?_)
    | with_reducible refine forke (fun _ => ?_) (fun _ _ => ?_)
    | with_reducible refine tail_k fun _ _ _ => ?_
    | with_reducible refine ext_k fun _ _ _ => ?_
    | with_reducible refine need (by first | kernel_rfl | omega | assumption) ?_
    | with_reducible refine st_agg (by kernel_rfl) rfl (by simp only [natV, intV, S3, *]) fun _ _ _ _ => ?_
    | with_reducible refine wpd_quiet_lit (by kernel_rfl) (by kernel_rfl) (by kernel_rfl) ?_
    | simp (maxDischargeDepth := 3) only [↓X, ↓Y, ↓Q, S1, ↓reduceIte, Nat.reduceEqDiff, Nat.reduceAdd, Int.reduceLT, Int.reduceLE, Int.reduceNeg, Int.reduceBEq, Int.reduceBNe, Int.reduceEq, Nat.reduceLeDiff, Nat.reduceMul, Nat.reduceLT, natV, intV, putAt, idxOk, flatP, *, replicaV]
    | simp (singlePass := true) (maxDischargeDepth := 99) only [*, S2, Nat.reduceLT, replicaV])
        refine CallsV.mono (slicesCloneP (B := B) FR (WorldR.r (hX _ FR)) hl2.out) fun v w10 hh => ⟨hh.1, Own.more hh.2 z9, fun b hb => (Own.lt hh.2 b (by rw [← Own.block hh.2]; exact hb)).1⟩
      · have e := Option.some.inj ho
        subst e
        have a6 := hag.at 6 (by kernel_rfl)
        simp only [U, ↓reduceIte, Nat.reduceEqDiff, initF, U2, List.getElem?_cons_zero, List.getElem?_cons_succ, *] at a6
        clear hag hdep ho
        refine ⟨fun _ => ?_, fun hF => absurd hF (by decide)⟩
        simp only [relStep, guardOn, if_true]
        (repeat' first
    | with_reducible refine alloc_k fun _ _ _ _ _ _ => ?_
    | ((with_reducible refine at_row ?_); refine row1_k (by rfl) (by decide) fun _ _ _ _ _ _ _ => ?_)
    | with_reducible refine row_k fun _ _ _ _ _ _ => ?_
    | with_reducible refine fork (fun _ => ?_) (fun _ => ?_)
    | with_reducible refine forkp (fun _ => ?_) (fun _ => ?_)
    | with_reducible refine forke (fun _ => ?_) (fun _ _ => ?_)
    | with_reducible refine tail_k fun _ _ _ => ?_
    | with_reducible refine ext_k fun _ _ _ => ?_
    | with_reducible refine need (by first | kernel_rfl | omega | assumption) ?_
    | with_reducible refine st_agg (by kernel_rfl) rfl (by simp only [natV, intV, S3, *]) fun _ _ _ _ => ?_
    | with_reducible refine wpd_quiet_lit (by kernel_rfl) (by kernel_rfl) (by kernel_rfl) ?_
    | simp (maxDischargeDepth := 3) only [↓X, ↓Y, ↓Q, S1, ↓reduceIte, Nat.reduceEqDiff, Nat.reduceAdd, Int.reduceLT, Int.reduceLE, Int.reduceNeg, Int.reduceBEq, Int.reduceBNe, Int.reduceEq, Nat.reduceLeDiff, Nat.reduceMul, Nat.reduceLT, natV, intV, putAt, idxOk, flatP, *, replicaV]
    | simp (singlePass := true) (maxDischargeDepth := 99) only [*, S2, Nat.reduceLT, replicaV])
      · have e := Option.some.inj ho
        subst e
        have a3 := hag.at 3 (by kernel_rfl)
        simp only [U, ↓reduceIte, Nat.reduceEqDiff, initF, U2, List.getElem?_cons_zero, List.getElem?_cons_succ, *] at a3
        clear hag hdep ho
        refine ⟨fun _ => ?_, fun hF => absurd hF (by decide)⟩
        simp only [relStep, guardOn, if_true]
        (repeat' first
    | with_reducible refine alloc_k fun _ _ _ _ _ _ => ?_
    | ((with_reducible refine at_row ?_); refine row1_k (by rfl) (by decide) fun _ _ _ _ _ _ _ => ?_)
    | with_reducible refine row_k fun _ _ _ _ _ _ => ?_
    | with_reducible refine fork (fun _ => ?_) (fun _ => ?_)
    | with_reducible refine forkp (fun _ => ?_) (fun _ => ?_)
    | with_reducible refine forke (fun _ => ?_) (fun _ _ => ?_)
    | with_reducible refine tail_k fun _ _ _ => ?_
    | with_reducible refine ext_k fun _ _ _ => ?_
    | with_reducible refine need (by first | kernel_rfl | omega | assumption) ?_
    | with_reducible refine st_agg (by kernel_rfl) rfl (by simp only [natV, intV, S3, *]) fun _ _ _ _ => ?_
    | with_reducible refine wpd_quiet_lit (by kernel_rfl) (by kernel_rfl) (by kernel_rfl) ?_
    | simp (maxDischargeDepth := 3) only [↓X, ↓Y, ↓Q, S1, ↓reduceIte, Nat.reduceEqDiff, Nat.reduceAdd, Int.reduceLT, Int.reduceLE, Int.reduceNeg, Int.reduceBEq, Int.reduceBNe, Int.reduceEq, Nat.reduceLeDiff, Nat.reduceMul, Nat.reduceLT, natV, intV, putAt, idxOk, flatP, *, replicaV]
    | simp (singlePass := true) (maxDischargeDepth := 99) only [*, S2, Nat.reduceLT, replicaV])
      · have e := Option.some.inj ho
        subst e
        have d6 : (gF 48) = replicaV r := hdep ⟨6, .data⟩ (by simp) rfl _ _ rfl rfl
        clear hag hdep ho
        refine ⟨fun hF => absurd hF (by decide), fun _ => ?_⟩
        simp only [relStep, guardOn, if_true]
        (repeat' first
    | with_reducible refine alloc_k fun _ _ _ _ _ _ => ?_
    | ((with_reducible refine at_row ?_); refine row1_k (by rfl) (by decide) fun _ _ _ _ _ _ _ => ?_)
    | with_reducible refine row_k fun _ _ _ _ _ _ => ?_
    | with_reducible refine fork (fun _ => ?_) (fun _ => ?_)
    | with_reducible refine forkp (fun _ => ?_) (fun _ => ?_)
    | with_reducible refine forke (fun _ => ?_) (fun _ _ => ?_)
    | with_reducible refine tail_k fun _ _ _ => ?_
    | with_reducible refine ext_k fun _ _ _ => ?_
    | with_reducible refine need (by first | kernel_rfl | omega | assumption) ?_
    | with_reducible refine st_agg (by kernel_rfl) rfl (by simp only [natV, intV, S3, *]) fun _ _ _ _ => ?_
    | with_reducible refine wpd_quiet_lit (by kernel_rfl) (by kernel_rfl) (by kernel_rfl) ?_
    | simp (maxDischargeDepth := 3) only [↓X, ↓Y, ↓Q, S1, ↓reduceIte, Nat.reduceEqDiff, Nat.reduceAdd, Int.reduceLT, Int.reduceLE, Int.reduceNeg, Int.reduceBEq, Int.reduceBNe, Int.reduceEq, Nat.reduceLeDiff, Nat.reduceMul, Nat.reduceLT, natV, intV, putAt, idxOk, flatP, *, replicaV]
    | simp (singlePass := true) (maxDischargeDepth := 99) only [*, S2, Nat.reduceLT, replicaV])
        rename_i b10 w10 n10 k10 s10 q10
        exact ⟨⟨_, rfl, k10.2.1 _ k10.2.2.1, FR⟩, fun b hb => by obtain rfl := Option.some.inj hb; exact FR⟩
      · omega
    · intro g9 w9 hx9 hR hDis hag
      have s9 := hx9.st
      have n9 : Now w9 := trivial
      have r9 := Ext.refl w9
      have z9 := hx9.size
      have d1 : OwnH w9 w7.heap.size (g9 43) x.hosts := hR 1 _ _ (by decide) rfl rfl
      have d4 : OwnP w9 w7.heap.size (g9 46) x.replicas := hR 4 _ _ (by decide) rfl rfl
      have d5 : (g9 47) = .int .i64 p := hR 5 _ _ (by decide) rfl rfl
      have d7 : ∃ b, (g9 49) = .slice (some ⟨b, 0, none⟩) 1 1 ∧ Blk w9 b 41 (replC r) ∧ w7.heap.size ≤ b := hR 7 _ _ (by decide) rfl rfl
      obtain ⟨b7, e7, hb7, q7⟩ := d7
      have k7 := hb7.bk
      have nw7 := Nw.of q7
      have a4 := hag.at 4 (by kernel_rfl)
      have a36 := hag.at 36 (by kernel_rfl)
      simp only [U, ↓reduceIte, Nat.reduceEqDiff, initF, U2, List.getElem?_cons_zero, List.getElem?_cons_succ, *] at a4 a36
      have dis14 := hDis 1 4 _ _ _ _ (by decide) (by decide) (by decide) rfl rfl rfl rfl rfl rfl
      have dis17 := hDis 1 7 _ _ _ _ (by decide) (by decide) (by decide) rfl rfl rfl rfl rfl rfl
      have dis41 := hDis 4 1 _ _ _ _ (by decide) (by decide) (by decide) rfl rfl rfl rfl rfl rfl
      have dis47 := hDis 4 7 _ _ _ _ (by decide) (by decide) (by decide) rfl rfl rfl rfl rfl rfl
      have dis71 := hDis 7 1 _ _ _ _ (by decide) (by decide) (by decide) rfl rfl rfl rfl rfl rfl
      have dis74 := hDis 7 4 _ _ _ _ (by decide) (by decide) (by decide) rfl rfl rfl rfl rfl rfl
      clear hag hR hDis
      simp only [List.drop_succ_cons, List.drop_zero]
      have oP := d4.o
      (repeat' first
    | with_reducible refine alloc_k fun _ _ _ _ _ _ => ?_
    | ((with_reducible refine at_row ?_); refine row1_k (by rfl) (by decide) fun _ _ _ _ _ _ _ => ?_)
    | with_reducible refine row_k fun _ _ _ _ _ _ => ?_
    | with_reducible refine fork (fun _ => ?_) (fun _ => ?_)
    | with_reducible refine forkp (fun _ => ?_) (fun _ => ?_)
    | with_reducible refine forke (fun _ => ?_) (fun _ _ => ?_)
    | with_reducible refine tail_k fun _ _ _ => ?_
    | with_reducible refine ext_k fun _ _ _ => ?_
    | with_reducible refine need (by first | kernel_rfl | omega | assumption) ?_
    | with_reducible refine st_agg (by kernel_rfl) rfl (by simp only [natV, intV, S3, *]) fun _ _ _ _ => ?_
    | with_reducible refine wpd_quiet_lit (by kernel_rfl) (by kernel_rfl) (by kernel_rfl) ?_
    | simp (maxDischargeDepth := 3) only [↓X, ↓Y, ↓Q, S1, ↓reduceIte, Nat.reduceEqDiff, Nat.reduceAdd, Int.reduceLT, Int.reduceLE, Int.reduceNeg, Int.reduceBEq, Int.reduceBNe, Int.reduceEq, Nat.reduceLeDiff, Nat.reduceMul, Nat.reduceLT, natV, intV, putAt, idxOk, flatP, *]
    | simp (singlePass := true) (maxDischargeDepth := 99) only [*, S2, Nat.reduceLT])
      refine CallsV.mono (insertP (B := w7.heap.size) FR d4 hb7 (dis74 b7 (by rw [e7]; rfl)) hple.out hl2.out) ?_
      rintro v' w10 ⟨hg, hown⟩
      have hH : OwnH w10 w7.heap.size (g9 43) x.hosts := d1.keep fun b hb => hg.block b (d1.lt b hb).2 (fun e => dis14 b (by rw [d1.block]; exact hb) e.symm)
      have sg := sg_of hg
      have n10 : Now w10 := trivial
      have oH := hH.o
      have oQ := hown.o
      have hb9 : Bl w.heap.size w w9 := by
        have hb00 : Bl w.heap.size w w := Bl.refl (Nat.le_refl _)
        exact FR
      have hle7 : w.heap.size ≤ w7.heap.size := FR
      have hb10 : Bl w.heap.size w w10 := sg.2.1 _ _ hb9 fun b hb => oP.2.2.1 b (Nat.lt_of_lt_of_le hb hle7)
      clear hH hown d1 d4 dis14 dis17 dis41 dis47 dis71 dis74 hg
      (repeat' first
    | with_reducible refine alloc_k fun _ _ _ _ _ _ => ?_
    | ((with_reducible refine at_row ?_); refine row1_k (by rfl) (by decide) fun _ _ _ _ _ _ _ => ?_)
    | with_reducible refine row_k fun _ _ _ _ _ _ => ?_
    | with_reducible refine fork (fun _ => ?_) (fun _ => ?_)
    | with_reducible refine forkp (fun _ => ?_) (fun _ => ?_)
    | with_reducible refine forke (fun _ => ?_) (fun _ _ => ?_)
    | with_reducible refine tail_k fun _ _ _ => ?_
    | with_reducible refine ext_k fun _ _ _ => ?_
    | with_reducible refine need (by first | kernel_rfl | omega | assumption) ?_
    | with_reducible refine st_agg (by kernel_rfl) rfl (by simp only [natV, intV, S3, *]) fun _ _ _ _ => ?_
    | with_reducible refine wpd_quiet_lit (by kernel_rfl) (by kernel_rfl) (by kernel_rfl) ?_
    | simp (maxDischargeDepth := 3) only [↓X, ↓Y, ↓Q, S1, ↓reduceIte, Nat.reduceEqDiff, Nat.reduceAdd, Int.reduceLT, Int.reduceLE, Int.reduceNeg, Int.reduceBEq, Int.reduceBNe, Int.reduceEq, Nat.reduceLeDiff, Nat.reduceMul, Nat.reduceLT, natV, intV, putAt, idxOk, flatP, *]
    | simp (singlePass := true) (maxDischargeDepth := 99) only [*, S2, Nat.reduceLT])
      rename_i w11 n11 k11 s11
      have hb11 : Bl w.heap.size w w11 := FR
      exact ⟨hb11.toExt, _, rfl, _, _, rfl, Own.more (oH.1 _ FR) FR, Own.more (oQ.1 _ FR) FR⟩
  · have hW : startW x r = noW := by simp [startW, hgood]
    rw [hW]
    clear hW
    rcases Bool.eq_false_or_eq_true (sortedB x.replicas) with c1 | c1
    · by_cases c2 : r.service < 0
      · have hE : startE x r = 1 := by unfold startE; simp [c1] <;> omega
        rw [hE]
        clear hE hgood
        (refine callsV_of Try.func16 rfl (by kernel_rfl) (by kernel_rfl) ?_; rw [Try.results16])
        (repeat' first
    | with_reducible refine alloc_k fun _ _ _ _ _ _ => ?_
    | ((with_reducible refine at_row ?_); refine row1_k (by rfl) (by decide) fun _ _ _ _ _ _ _ => ?_)
    | with_reducible refine row_k fun _ _ _ _ _ _ => ?_
    | with_reducible refine fork (fun _ => ?_) (fun _ => ?_)
    | with_reducible refine forkp (fun _ => ?_) (fun _ => ?_)
    | with_reducible refine forke (fun _ => ?_) (fun _ _ => ?_)
    | with_reducible refine tail_k fun _ _ _ => ?_
    | with_reducible refine ext_k fun _ _ _ => ?_
    | with_reducible refine need (by first | kernel_rfl | omega | assumption) ?_
    | with_reducible refine st_agg (by kernel_rfl) rfl (by simp only [natV, intV, S3, *]) fun _ _ _ _ => ?_
    | with_reducible refine wpd_quiet_lit (by kernel_rfl) (by kernel_rfl) (by kernel_rfl) ?_
    | ((with_reducible refine at_f 48 ?_); refine ret_k (hso _ FR FR) fun _ _ _ => ?_)
    | ((with_reducible refine at_f 24 ?_); refine ret_k (hha _ FR FR) fun _ _ _ => ?_)
    | simp (maxDischargeDepth := 3) only [↓X, ↓Y, ↓Q, S1, ↓reduceIte, Nat.reduceEqDiff, Nat.reduceAdd, Int.reduceLT, Int.reduceLE, Int.reduceNeg, Int.reduceBEq, Int.reduceBNe, Int.reduceEq, Nat.reduceLeDiff, Nat.reduceMul, Nat.reduceLT, natV, intV, putAt, idxOk, flatP, *, replicaV]
    | simp (singlePass := true) (maxDischargeDepth := 99) only [*, S2, Nat.reduceLT, replicaV])
        exact ⟨_, rfl, OwnW.none _ _⟩
      · by_cases c3 : r.host < 0
        · have hE : startE x r = 1 := by unfold startE; simp [c1] <;> omega
          rw [hE]
          clear hE hgood
          (refine callsV_of Try.func16 rfl (by kernel_rfl) (by kernel_rfl) ?_; rw [Try.results16])
          (repeat' first
    | with_reducible refine alloc_k fun _ _ _ _ _ _ => ?_
    | ((with_reducible refine at_row ?_); refine row1_k (by rfl) (by decide) fun _ _ _ _ _ _ _ => ?_)
    | with_reducible refine row_k fun _ _ _ _ _ _ => ?_
    | with_reducible refine fork (fun _ => ?_) (fun _ => ?_)
    | with_reducible refine forkp (fun _ => ?_) (fun _ => ?_)
    | with_reducible refine forke (fun _ => ?_) (fun _ _ => ?_)
    | with_reducible refine tail_k fun _ _ _ => ?_
    | with_reducible refine ext_k fun _ _ _ => ?_
    | with_reducible refine need (by first | kernel_rfl | omega | assumption) ?_
    | with_reducible refine st_agg (by kernel_rfl) rfl (by simp only [natV, intV, S3, *]) fun _ _ _ _ => ?_
    | with_reducible refine wpd_quiet_lit (by kernel_rfl) (by kernel_rfl) (by kernel_rfl) ?_
    | ((with_reducible refine at_f 48 ?_); refine ret_k (hso _ FR FR) fun _ _ _ => ?_)
    | ((with_reducible refine at_f 24 ?_); refine ret_k (hha _ FR FR) fun _ _ _ => ?_)
    | simp (maxDischargeDepth := 3) only [↓X, ↓Y, ↓Q, S1, ↓reduceIte, Nat.reduceEqDiff, Nat.reduceAdd, Int.reduceLT, Int.reduceLE, Int.reduceNeg, Int.reduceBEq, Int.reduceBNe, Int.reduceEq, Nat.reduceLeDiff, Nat.reduceMul, Nat.reduceLT, natV, intV, putAt, idxOk, flatP, *, replicaV]
    | simp (singlePass := true) (maxDischargeDepth := 99) only [*, S2, Nat.reduceLT, replicaV])
          exact ⟨_, rfl, OwnW.none _ _⟩
        · rcases Bool.eq_false_or_eq_true (hasB x.replicas r) with c4 | c4
          · have c2' : decide (r.service < 0) = false := by simpa using c2
            have c3' : decide (r.host < 0) = false := by simpa using c3
            have hE : startE x r = 6 := by unfold startE; simp [c1, c4] ; omega
            rw [hE]
            clear hE hgood
            (refine callsV_of Try.func16 rfl (by kernel_rfl) (by kernel_rfl) ?_; rw [Try.results16])
            (repeat' first
    | with_reducible refine alloc_k fun _ _ _ _ _ _ => ?_
    | ((with_reducible refine at_row ?_); refine row1_k (by rfl) (by decide) fun _ _ _ _ _ _ _ => ?_)
    | with_reducible refine row_k fun _ _ _ _ _ _ => ?_
    | with_reducible refine fork (fun _ => ?_) (fun _ => ?_)
    | with_reducible refine forkp (fun _ => ?_) (fun _ => ?_)
    | with_reducible refine forke (fun _ => ?_) (fun _ _ => ?_)
    | with_reducible refine tail_k fun _ _ _ => ?_
    | with_reducible refine ext_k fun _ _ _ => ?_
    | with_reducible refine need (by first | kernel_rfl | omega | assumption) ?_
    | with_reducible refine st_agg (by kernel_rfl) rfl (by simp only [natV, intV, S3, *]) fun _ _ _ _ => ?_
    | with_reducible refine wpd_quiet_lit (by kernel_rfl) (by kernel_rfl) (by kernel_rfl) ?_
    | ((with_reducible refine at_f 48 ?_); refine ret_k (hso _ FR FR) fun _ _ _ => ?_)
    | ((with_reducible refine at_f 24 ?_); refine ret_k (hha _ FR FR) fun _ _ _ => ?_)
    | simp (maxDischargeDepth := 3) only [↓X, ↓Y, ↓Q, S1, ↓reduceIte, Nat.reduceEqDiff, Nat.reduceAdd, Int.reduceLT, Int.reduceLE, Int.reduceNeg, Int.reduceBEq, Int.reduceBNe, Int.reduceEq, Nat.reduceLeDiff, Nat.reduceMul, Nat.reduceLT, natV, intV, putAt, idxOk, flatP, *, replicaV]
    | simp (singlePass := true) (maxDischargeDepth := 99) only [*, S2, Nat.reduceLT, replicaV])
            exact ⟨_, rfl, OwnW.none _ _⟩
          · have c5 : 24 ≤ x.replicas.length := by
              refine Nat.le_of_not_lt fun h => hgood ?_
              have h2 : ¬ 24 ≤ x.replicas.length := by omega
              unfold startE
              rw [if_pos ⟨c1, by omega, by omega⟩, if_neg (by simp [c4]), if_neg h2]
            have c2' : decide (r.service < 0) = false := by simpa using c2
            have c3' : decide (r.host < 0) = false := by simpa using c3
            have hE : startE x r = 9 := by
              unfold startE
              rw [if_pos ⟨c1, by omega, by omega⟩, if_neg (by simp [c4]), if_pos c5]
            rw [hE]
            have c5' : decide ((24 : Int) ≤ (x.replicas.length : Int)) = true := by simp; omega
            clear hE hgood c5
            (refine callsV_of Try.func16 rfl (by kernel_rfl) (by kernel_rfl) ?_; rw [Try.results16])
            (repeat' first
    | with_reducible refine alloc_k fun _ _ _ _ _ _ => ?_
    | ((with_reducible refine at_row ?_); refine row1_k (by rfl) (by decide) fun _ _ _ _ _ _ _ => ?_)
    | with_reducible refine row_k fun _ _ _ _ _ _ => ?_
    | with_reducible refine fork (fun _ => ?_) (fun _ => ?_)
    | with_reducible refine forkp (fun _ => ?_) (fun _ => ?_)
    | with_reducible refine forke (fun _ => ?_) (fun _ _ => ?_)
    | with_reducible refine tail_k fun _ _ _ => ?_
    | with_reducible refine ext_k fun _ _ _ => ?_
    | with_reducible refine need (by first | kernel_rfl | omega | assumption) ?_
    | with_reducible refine st_agg (by kernel_rfl) rfl (by simp only [natV, intV, S3, *]) fun _ _ _ _ => ?_
    | with_reducible refine wpd_quiet_lit (by kernel_rfl) (by kernel_rfl) (by kernel_rfl) ?_
    | ((with_reducible refine at_f 48 ?_); refine ret_k (hso _ FR FR) fun _ _ _ => ?_)
    | ((with_reducible refine at_f 24 ?_); refine ret_k (hha _ FR FR) fun _ _ _ => ?_)
    | simp (maxDischargeDepth := 3) only [↓X, ↓Y, ↓Q, S1, ↓reduceIte, Nat.reduceEqDiff, Nat.reduceAdd, Int.reduceLT, Int.reduceLE, Int.reduceNeg, Int.reduceBEq, Int.reduceBNe, Int.reduceEq, Nat.reduceLeDiff, Nat.reduceMul, Nat.reduceLT, natV, intV, putAt, idxOk, flatP, *, replicaV]
    | simp (singlePass := true) (maxDischargeDepth := 99) only [*, S2, Nat.reduceLT, replicaV])
            exact ⟨_, rfl, OwnW.none _ _⟩
    · have hE : startE x r = 1 := by unfold startE; simp [c1] <;> omega
      rw [hE]
      clear hE hgood
      (refine callsV_of Try.func16 rfl (by kernel_rfl) (by kernel_rfl) ?_; rw [Try.results16])
      (repeat' first
    | with_reducible refine alloc_k fun _ _ _ _ _ _ => ?_
    | ((with_reducible refine at_row ?_); refine row1_k (by rfl) (by decide) fun _ _ _ _ _ _ _ => ?_)
    | with_reducible refine row_k fun _ _ _ _ _ _ => ?_
    | with_reducible refine fork (fun _ => ?_) (fun _ => ?_)
    | with_reducible refine forkp (fun _ => ?_) (fun _ => ?_)
    | with_reducible refine forke (fun _ => ?_) (fun _ _ => ?_)
    | with_reducible refine tail_k fun _ _ _ => ?_
    | with_reducible refine ext_k fun _ _ _ => ?_
    | with_reducible refine need (by first | kernel_rfl | omega | assumption) ?_
    | with_reducible refine st_agg (by kernel_rfl) rfl (by simp only [natV, intV, S3, *]) fun _ _ _ _ => ?_
    | with_reducible refine wpd_quiet_lit (by kernel_rfl) (by kernel_rfl) (by kernel_rfl) ?_
    | ((with_reducible refine at_f 48 ?_); refine ret_k (hso _ FR FR) fun _ _ _ => ?_)
    | ((with_reducible refine at_f 24 ?_); refine ret_k (hha _ FR FR) fun _ _ _ => ?_)
    | simp (maxDischargeDepth := 3) only [↓X, ↓Y, ↓Q, S1, ↓reduceIte, Nat.reduceEqDiff, Nat.reduceAdd, Int.reduceLT, Int.reduceLE, Int.reduceNeg, Int.reduceBEq, Int.reduceBNe, Int.reduceEq, Nat.reduceLeDiff, Nat.reduceMul, Nat.reduceLT, natV, intV, putAt, idxOk, flatP, *, replicaV]
    | simp (singlePass := true) (maxDischargeDepth := 99) only [*, S2, Nat.reduceLT, replicaV])
      exact ⟨_, rfl, OwnW.none _ _⟩
end
end Go.Proofs.Ytbfmabkdggllhaa
