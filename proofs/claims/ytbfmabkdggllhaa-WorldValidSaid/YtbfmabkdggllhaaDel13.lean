/- The library's DeleteFunc on a row of the call's own; the layer world: Stop. -/
import Derived.Test.YtbfmabkdggllhaaCut
namespace Go.Proofs.Ytbfmabkdggllhaa
set_option linter.unusedSimpArgs false
set_option linter.unusedVariables false
open Go Go.RowKit
set_option maxRecDepth 100000
set_option linter.unusedSectionVars false
set_option maxHeartbeats 1000000
theorem filter_split {α : Type} (q : α → Bool) (l : List α) {k : Nat} (h : k < l.length) : (l.take (k + 1)).filter (fun x => !q x) = (l.take k).filter (fun x => !q x) ++ if q l[k] = true then [] else [l[k]] := by
  rw [List.take_succ_eq_append_getElem h, List.filter_append]
  cases e : q l[k] <;> simp [e]
theorem fidx_cases {α : Type} (q : α → Bool) (l : List α) : (fidx q l = -1 ∧ ∀ x ∈ l, q x = false) ∨ ∃ i, ∃ h : i < l.length, fidx q l = (i : Int) ∧ q l[i] = true ∧ ∀ x ∈ l.take i, q x = false := by
  cases hf : l.findIdx? q with
  | none =>
    left
    rw [List.findIdx?_eq_none_iff] at hf
    exact ⟨by simp [fidx, List.findIdx?_eq_none_iff.2 hf], hf⟩
  | some i =>
    right
    have hf' := hf
    rw [List.findIdx?_eq_some_iff_getElem] at hf
    obtain ⟨hi, hp, hn⟩ := hf
    refine ⟨i, hi, by simp [fidx, hf'], hp, fun x hx => ?_⟩
    obtain ⟨j, hj, rfl⟩ := List.getElem_of_mem hx
    rw [List.length_take] at hj
    rw [List.getElem_take]
    simpa using hn j (by omega)
theorem call_b {P : Program} {w : World} {B : Nat} {f : FuncId} {args : Array Value} {Φ : Value → World → Prop} {K : Value → World → Prop} (h : CallsV P f args w fun v w' => Below B w w' ∧ Φ v w') (hk : ∀ v w', Now w' → Sa B w w' → Φ v w' → K v w') : CallsV P f args w K :=
  CallsV.mono h fun v w' ⟨hx, hv⟩ => hk v w' trivial (sa_of hx) hv
section
variable {w : World} {B : Nat}
theorem deleteFuncP {v : Value} {l : List ReplicaD} {cl : Nat} {caps : List Value} {q : ReplicaD → Bool} (hB : B ≤ w.heap.size) (hown : OwnP w B v l) (hc : callable Try.prog cl = true)
    (hf : ∀ x w', Bl B w w' → Ret Try.prog cl (replicaV x :: caps).toArray w' (.bool (q x))) : CallsV Try.prog 60 #[v, .func (.func cl) #[] caps.toArray] w fun v' w' => Below B w w' ∧ OwnP w' B v' (l.filter fun x => !q x) := by
  have hn : Now w := trivial
  have hx : Ext w w := Ext.refl w
  have hs0 := hown.slN (f := replC)
  have hl := hown.l
  rw [List.length_map] at hl
  have hb0 : Bl B w w := Bl.refl hB
  have hsm : l.length ≤ 140737488355328 := by simpa using hown.small
  have hsm : Hid _ := hsm
  have hi : Ret Try.prog 84 #[v, .func (.func cl) #[] caps.toArray] w (.int .i64 (fidx q l)) := indexFunc_Replica (Nat.le_refl _) hs0 hc (fun x _ w' hx' => hf x w' (hb0.ext hx'))
  (refine callsV_of Try.func60 rfl (by kernel_rfl) (by kernel_rfl) ?_; rw [Try.results60])
  rcases fidx_cases q l with ⟨e, hn⟩ | ⟨i, hil, e, hqi, hbef⟩
  · rw [e] at hi
    (repeat' first
    | with_reducible refine alloc_k fun _ _ _ _ _ _ => ?_
    | ((with_reducible refine at_row ?_); refine row1_k (by rfl) (by decide) fun _ _ _ _ _ _ _ => ?_)
    | with_reducible refine row_k fun _ _ _ _ _ _ => ?_
    | with_reducible refine fork (fun _ => ?_) (fun _ => ?_)
    | with_reducible refine forkp (fun _ => ?_) (fun _ => ?_)
    | with_reducible refine forke (fun _ => ?_) (fun _ _ => ?_)
    | with_reducible refine tail_k fun _ _ _ => ?_
    | with_reducible refine ext_k fun _ _ _ => ?_
    | with_reducible refine need (by first | kernel_rfl | omega | assumption) ?_
    | with_reducible refine st_agg (by kernel_rfl) rfl (by simp only [natV, intV, S3, *]) fun _ _ _ _ => ?_
    | with_reducible refine wpd_quiet_lit (by kernel_rfl) (by kernel_rfl) (by kernel_rfl) ?_
    | ((with_reducible refine at_f 84 ?_); refine ret_k (hi) fun _ _ _ => ?_)
    | simp (maxDischargeDepth := 3) only [↓X, ↓Y, ↓Q, S1, ↓reduceIte, Nat.reduceEqDiff, Nat.reduceAdd, Int.reduceLT, Int.reduceLE, Int.reduceNeg, Int.reduceBEq, Int.reduceBNe, Int.reduceEq, Nat.reduceLeDiff, Nat.reduceMul, Nat.reduceLT, natV, intV, putAt, idxOk, flatP, *]
    | simp (singlePass := true) (maxDischargeDepth := 99) only [*, S2, Nat.reduceLT])
    · rename_i w1 n1 s1
      have hall : (l.filter fun x => !q x) = l := List.filter_eq_self.2 fun x hx' => by simp [hn x hx']
      rw [hall]
      have o := hown.o
      have hbl1 : Bl B w w1 := FR
      exact ⟨hbl1.2, o.1 _ FR⟩
  · rw [e] at hi
    (repeat' first
    | with_reducible refine alloc_k fun _ _ _ _ _ _ => ?_
    | ((with_reducible refine at_row ?_); refine row1_k (by rfl) (by decide) fun _ _ _ _ _ _ _ => ?_)
    | with_reducible refine row_k fun _ _ _ _ _ _ => ?_
    | with_reducible refine fork (fun _ => ?_) (fun _ => ?_)
    | with_reducible refine forkp (fun _ => ?_) (fun _ => ?_)
    | with_reducible refine forke (fun _ => ?_) (fun _ _ => ?_)
    | with_reducible refine tail_k fun _ _ _ => ?_
    | with_reducible refine ext_k fun _ _ _ => ?_
    | with_reducible refine need (by first | kernel_rfl | omega | assumption) ?_
    | with_reducible refine st_agg (by kernel_rfl) rfl (by simp only [natV, intV, S3, *]) fun _ _ _ _ => ?_
    | with_reducible refine wpd_quiet_lit (by kernel_rfl) (by kernel_rfl) (by kernel_rfl) ?_
    | ((with_reducible refine at_f 84 ?_); refine ret_k (hi) fun _ _ _ => ?_)
    | simp (maxDischargeDepth := 3) only [↓X, ↓Y, ↓Q, S1, ↓reduceIte, Nat.reduceEqDiff, Nat.reduceAdd, Int.reduceLT, Int.reduceLE, Int.reduceNeg, Int.reduceBEq, Int.reduceBNe, Int.reduceEq, Nat.reduceLeDiff, Nat.reduceMul, Nat.reduceLT, natV, intV, putAt, idxOk, flatP, *]
    | simp (singlePass := true) (maxDischargeDepth := 99) only [*, S2, Nat.reduceLT])
    · exfalso; omega
    rename_i w1 n1 s1 e1 e2
    have o := hown.o
    have hbl1 : Bl B w w1 := FR
    have hown1 : OwnP w1 B v l := o.1 _ FR
    have hw1 : IntKind.i64.wrap ((i : Int) + 1) = ((i + 1 : Nat) : Int) := by
      have := hsm.out
      rw [wrap_i64_id] <;> omega
    clear o e1 e2
    refine loop_f (i + 1) l.length (fun g0 k g w' => ∃ m0 mid, ∃ j : Nat, g 5 = .int .i64 j ∧ g 6 = .int .i64 k ∧ (g 0 = g0 0 ∧ g 1 = g0 1) ∧ Bl B w w' ∧ j + (mid.length + 1) = k ∧ ((l.take k).filter fun x => !q x).length = j ∧ OwnP w' B v (((l.take k).filter fun x => !q x) ++ m0 :: mid ++ l.drop k)) (by kernel_rfl) hil ?_ ?_ ?_
    · (repeat' first
    | with_reducible refine alloc_k fun _ _ _ _ _ _ => ?_
    | ((with_reducible refine at_row ?_); refine row1_k (by rfl) (by decide) fun _ _ _ _ _ _ _ => ?_)
    | with_reducible refine row_k fun _ _ _ _ _ _ => ?_
    | with_reducible refine fork (fun _ => ?_) (fun _ => ?_)
    | with_reducible refine forkp (fun _ => ?_) (fun _ => ?_)
    | with_reducible refine forke (fun _ => ?_) (fun _ _ => ?_)
    | with_reducible refine tail_k fun _ _ _ => ?_
    | with_reducible refine ext_k fun _ _ _ => ?_
    | with_reducible refine need (by first | kernel_rfl | omega | assumption) ?_
    | with_reducible refine st_agg (by kernel_rfl) rfl (by simp only [natV, intV, S3, *]) fun _ _ _ _ => ?_
    | with_reducible refine wpd_quiet_lit (by kernel_rfl) (by kernel_rfl) (by kernel_rfl) ?_
    | simp (maxDischargeDepth := 3) only [↓X, ↓Y, ↓Q, S1, ↓reduceIte, Nat.reduceEqDiff, Nat.reduceAdd, Int.reduceLT, Int.reduceLE, Int.reduceNeg, Int.reduceBEq, Int.reduceBNe, Int.reduceEq, Nat.reduceLeDiff, Nat.reduceMul, Nat.reduceLT, natV, intV, putAt, idxOk, flatP, *]
    | simp (singlePass := true) (maxDischargeDepth := 99) only [*, S2, Nat.reduceLT])
      refine ⟨l[i], [], i, rfl, rfl, ?_⟩
      have h1 : ((l.take (i + 1)).filter fun x => !q x) = l.take i := by
        rw [filter_split q l hil, hqi]
        simp only [if_true, List.append_nil]
        exact List.filter_eq_self.2 fun x hx' => by simp [hbef x hx']
      rw [h1]
      refine ⟨by rw [List.length_take]; omega, ?_⟩
      rw [show l.take i ++ l[i] :: [] ++ l.drop (i + 1) = l by simp]
      exact hown1
    · rintro k m g wk hk hlt nk ⟨m0, mid, j, h5, h6, hf', hbl, hj, hkl, hownk⟩
      simp (maxDischargeDepth := 3) only [U, ↓reduceIte, Nat.reduceEqDiff, *] at hf'
      have hsk := (hownk.slN (f := replC)).v (Nat.le_refl _)
      have ok := hownk.o
      have hBk : B ≤ wk.heap.size := hbl.size
      have hlen : (((l.take k).filter fun x => !q x) ++ m0 :: mid ++ l.drop k).length = l.length := by
        simp only [List.length_append, List.length_cons, List.length_drop, hkl]
        omega
      have hat : (((l.take k).filter fun x => !q x) ++ m0 :: mid ++ l.drop k)[k]'(by omega) = l[k] := by
        rw [List.getElem_append_right (by simp only [List.length_append, List.length_cons, hkl]; omega)]
        simp only [List.getElem_drop, List.length_append, List.length_cons, hkl]
        congr 1
        omega
      obtain ⟨f1, f2, f3, f4, f5, f6, f7, f8⟩ := hsk
      rw [hlen] at f3
      have hrd : ∀ w', Vp v wk w' → rdv (some 2) w' (elemAt v 2 k) = some (replicaV l[k]) := fun w' hv => by
        have := f6 w' hv k (by omega)
        rw [hat] at this
        exact this
      clear f6 f7 hat
      have hwk : IntKind.i64.wrap ((k : Int) + 1) = ((k + 1 : Nat) : Int) := by
        have := hsm.out
        rw [wrap_i64_id] <;> omega
      have hwj : IntKind.i64.wrap ((j : Int) + 1) = ((j + 1 : Nat) : Int) := by
        have := hsm.out
        rw [wrap_i64_id] <;> omega
      (repeat' first
    | with_reducible refine alloc_k fun _ _ _ _ _ _ => ?_
    | ((with_reducible refine at_row ?_); refine row1_k (by rfl) (by decide) fun _ _ _ _ _ _ _ => ?_)
    | with_reducible refine row_k fun _ _ _ _ _ _ => ?_
    | with_reducible refine fork (fun _ => ?_) (fun _ => ?_)
    | with_reducible refine forkp (fun _ => ?_) (fun _ => ?_)
    | with_reducible refine forke (fun _ => ?_) (fun _ _ => ?_)
    | with_reducible refine tail_k fun _ _ _ => ?_
    | with_reducible refine ext_k fun _ _ _ => ?_
    | with_reducible refine need (by first | kernel_rfl | omega | assumption) ?_
    | with_reducible refine st_agg (by kernel_rfl) rfl (by simp only [natV, intV, S3, *]) fun _ _ _ _ => ?_
    | with_reducible refine wpd_quiet_lit (by kernel_rfl) (by kernel_rfl) (by kernel_rfl) ?_
    | simp (maxDischargeDepth := 3) only [↓X, ↓Y, ↓Q, S1, ↓reduceIte, Nat.reduceEqDiff, Nat.reduceAdd, Int.reduceLT, Int.reduceLE, Int.reduceNeg, Int.reduceBEq, Int.reduceBNe, Int.reduceEq, Nat.reduceLeDiff, Nat.reduceMul, Nat.reduceLT, natV, intV, putAt, idxOk, flatP, *, replicaV, hc]
    | simp (singlePass := true) (maxDischargeDepth := 99) only [*, S2, Nat.reduceLT, replicaV, hc])
      rename_i b2 w2 n2 k2 s2 q2 w3 n3 k3 s3
      refine ret_k (hf l[k] _ FR) fun w4 n4 s4 => ?_
      have hsp := filter_split q l hlt
      have hdr : l.drop k = l[k] :: l.drop (k + 1) := List.drop_eq_getElem_cons hlt
      cases hq : q l[k] with
      | true =>
        rw [hq] at hsp
        simp only [if_true, List.append_nil] at hsp
        (repeat' first
    | with_reducible refine alloc_k fun _ _ _ _ _ _ => ?_
    | ((with_reducible refine at_row ?_); refine row1_k (by rfl) (by decide) fun _ _ _ _ _ _ _ => ?_)
    | with_reducible refine row_k fun _ _ _ _ _ _ => ?_
    | with_reducible refine fork (fun _ => ?_) (fun _ => ?_)
    | with_reducible refine forkp (fun _ => ?_) (fun _ => ?_)
    | with_reducible refine forke (fun _ => ?_) (fun _ _ => ?_)
    | with_reducible refine tail_k fun _ _ _ => ?_
    | with_reducible refine ext_k fun _ _ _ => ?_
    | with_reducible refine need (by first | kernel_rfl | omega | assumption) ?_
    | with_reducible refine st_agg (by kernel_rfl) rfl (by simp only [natV, intV, S3, *]) fun _ _ _ _ => ?_
    | with_reducible refine wpd_quiet_lit (by kernel_rfl) (by kernel_rfl) (by kernel_rfl) ?_
    | simp (maxDischargeDepth := 3) only [↓X, ↓Y, ↓Q, S1, ↓reduceIte, Nat.reduceEqDiff, Nat.reduceAdd, Int.reduceLT, Int.reduceLE, Int.reduceNeg, Int.reduceBEq, Int.reduceBNe, Int.reduceEq, Nat.reduceLeDiff, Nat.reduceMul, Nat.reduceLT, natV, intV, putAt, idxOk, flatP, *]
    | simp (singlePass := true) (maxDischargeDepth := 99) only [*, S2, Nat.reduceLT])
        refine next_g hk hlt ?_
        (repeat' first
    | with_reducible refine alloc_k fun _ _ _ _ _ _ => ?_
    | ((with_reducible refine at_row ?_); refine row1_k (by rfl) (by decide) fun _ _ _ _ _ _ _ => ?_)
    | with_reducible refine row_k fun _ _ _ _ _ _ => ?_
    | with_reducible refine fork (fun _ => ?_) (fun _ => ?_)
    | with_reducible refine forkp (fun _ => ?_) (fun _ => ?_)
    | with_reducible refine forke (fun _ => ?_) (fun _ _ => ?_)
    | with_reducible refine tail_k fun _ _ _ => ?_
    | with_reducible refine ext_k fun _ _ _ => ?_
    | with_reducible refine need (by first | kernel_rfl | omega | assumption) ?_
    | with_reducible refine st_agg (by kernel_rfl) rfl (by simp only [natV, intV, S3, *]) fun _ _ _ _ => ?_
    | with_reducible refine wpd_quiet_lit (by kernel_rfl) (by kernel_rfl) (by kernel_rfl) ?_
    | simp (maxDischargeDepth := 3) only [↓X, ↓Y, ↓Q, S1, ↓reduceIte, Nat.reduceEqDiff, Nat.reduceAdd, Int.reduceLT, Int.reduceLE, Int.reduceNeg, Int.reduceBEq, Int.reduceBNe, Int.reduceEq, Nat.reduceLeDiff, Nat.reduceMul, Nat.reduceLT, natV, intV, putAt, idxOk, flatP, *]
    | simp (singlePass := true) (maxDischargeDepth := 99) only [*, S2, Nat.reduceLT])
        refine ⟨m0, mid ++ [l[k]], j, rfl, ?_, ?_⟩
        · simp; omega
        · have := ok.1 w4 FR
          rw [hdr] at this
          simpa [OwnP] using this
      | false =>
        rw [hq] at hsp
        simp only [Bool.false_eq_true, if_false] at hsp
        have hw4 : Bl B w w4 := FR
        have hbp : Bp v wk w4 := FR
        have hv4 : OwnP w4 B v (((l.take k).filter fun x => !q x) ++ m0 :: mid ++ l.drop k) := ok.1 _ hbp
        have hset : ((((l.take k).filter fun x => !q x) ++ m0 :: mid ++ l.drop k).map replC).set j (replC l[k]) = (((l.take k).filter fun x => !q x) ++ l[k] :: mid ++ l.drop k).map replC := by
          rw [← List.map_set]
          congr 1
          rw [List.append_assoc, List.set_append_right _ _ (by omega), hkl, Nat.sub_self]
          simp
        (repeat' first
    | with_reducible refine alloc_k fun _ _ _ _ _ _ => ?_
    | ((with_reducible refine at_row ?_); refine row1_k (by rfl) (by decide) fun _ _ _ _ _ _ _ => ?_)
    | with_reducible refine row_k fun _ _ _ _ _ _ => ?_
    | with_reducible refine fork (fun _ => ?_) (fun _ => ?_)
    | with_reducible refine forkp (fun _ => ?_) (fun _ => ?_)
    | with_reducible refine forke (fun _ => ?_) (fun _ _ => ?_)
    | with_reducible refine tail_k fun _ _ _ => ?_
    | with_reducible refine ext_k fun _ _ _ => ?_
    | with_reducible refine need (by first | kernel_rfl | omega | assumption) ?_
    | with_reducible refine st_agg (by kernel_rfl) rfl (by simp only [natV, intV, S3, *]) fun _ _ _ _ => ?_
    | with_reducible refine wpd_quiet_lit (by kernel_rfl) (by kernel_rfl) (by kernel_rfl) ?_
    | simp (maxDischargeDepth := 3) only [↓X, ↓Y, ↓Q, S1, ↓reduceIte, Nat.reduceEqDiff, Nat.reduceAdd, Int.reduceLT, Int.reduceLE, Int.reduceNeg, Int.reduceBEq, Int.reduceBNe, Int.reduceEq, Nat.reduceLeDiff, Nat.reduceMul, Nat.reduceLT, natV, intV, putAt, idxOk, flatP, *, replicaV]
    | simp (singlePass := true) (maxDischargeDepth := 99) only [*, S2, Nat.reduceLT, replicaV])
        refine own_set (i := j) (vs := replC l[k]) (by kernel_rfl) (by decide) hv4 (by simp only [List.length_map, hlen]; omega) rfl (replC_one _) fun b9 w10 n10 e9 hb9 hl9 hown9 s10 c10 => ?_
        rw [hset] at hown9
        have hw10 : Bl B w w10 := hw4.chg c10 hb9
        clear e9
        (repeat' first
    | with_reducible refine alloc_k fun _ _ _ _ _ _ => ?_
    | ((with_reducible refine at_row ?_); refine row1_k (by rfl) (by decide) fun _ _ _ _ _ _ _ => ?_)
    | with_reducible refine row_k fun _ _ _ _ _ _ => ?_
    | with_reducible refine fork (fun _ => ?_) (fun _ => ?_)
    | with_reducible refine forkp (fun _ => ?_) (fun _ => ?_)
    | with_reducible refine forke (fun _ => ?_) (fun _ _ => ?_)
    | with_reducible refine tail_k fun _ _ _ => ?_
    | with_reducible refine ext_k fun _ _ _ => ?_
    | with_reducible refine need (by first | kernel_rfl | omega | assumption) ?_
    | with_reducible refine st_agg (by kernel_rfl) rfl (by simp only [natV, intV, S3, *]) fun _ _ _ _ => ?_
    | with_reducible refine wpd_quiet_lit (by kernel_rfl) (by kernel_rfl) (by kernel_rfl) ?_
    | simp (maxDischargeDepth := 3) only [↓X, ↓Y, ↓Q, S1, ↓reduceIte, Nat.reduceEqDiff, Nat.reduceAdd, Int.reduceLT, Int.reduceLE, Int.reduceNeg, Int.reduceBEq, Int.reduceBNe, Int.reduceEq, Nat.reduceLeDiff, Nat.reduceMul, Nat.reduceLT, natV, intV, putAt, idxOk, flatP, *]
    | simp (singlePass := true) (maxDischargeDepth := 99) only [*, S2, Nat.reduceLT])
        refine next_g hk hlt ?_
        (repeat' first
    | with_reducible refine alloc_k fun _ _ _ _ _ _ => ?_
    | ((with_reducible refine at_row ?_); refine row1_k (by rfl) (by decide) fun _ _ _ _ _ _ _ => ?_)
    | with_reducible refine row_k fun _ _ _ _ _ _ => ?_
    | with_reducible refine fork (fun _ => ?_) (fun _ => ?_)
    | with_reducible refine forkp (fun _ => ?_) (fun _ => ?_)
    | with_reducible refine forke (fun _ => ?_) (fun _ _ => ?_)
    | with_reducible refine tail_k fun _ _ _ => ?_
    | with_reducible refine ext_k fun _ _ _ => ?_
    | with_reducible refine need (by first | kernel_rfl | omega | assumption) ?_
    | with_reducible refine st_agg (by kernel_rfl) rfl (by simp only [natV, intV, S3, *]) fun _ _ _ _ => ?_
    | with_reducible refine wpd_quiet_lit (by kernel_rfl) (by kernel_rfl) (by kernel_rfl) ?_
    | simp (maxDischargeDepth := 3) only [↓X, ↓Y, ↓Q, S1, ↓reduceIte, Nat.reduceEqDiff, Nat.reduceAdd, Int.reduceLT, Int.reduceLE, Int.reduceNeg, Int.reduceBEq, Int.reduceBNe, Int.reduceEq, Nat.reduceLeDiff, Nat.reduceMul, Nat.reduceLT, natV, intV, putAt, idxOk, flatP, *]
    | simp (singlePass := true) (maxDischargeDepth := 99) only [*, S2, Nat.reduceLT])
        rw [List.append_assoc, hdr] at hown9
        cases mid with
        | nil =>
          refine ⟨l[k], [], j + 1, rfl, by simpa using hj, by simp [hkl], ?_⟩
          simpa [OwnP] using hown9
        | cons m1 mid' =>
          refine ⟨m1, mid' ++ [l[k]], j + 1, rfl, by simp at hj ⊢; omega, by simp [hkl], ?_⟩
          simpa [OwnP] using hown9
    · rintro g wk nk ⟨m0, mid, j, h5, h6, hf', hbl, hj, hkl, hownk⟩
      simp (maxDischargeDepth := 3) only [U, ↓reduceIte, Nat.reduceEqDiff, *] at hf'
      rw [take_all'] at hkl hownk
      have hlk := hownk.l
      rw [List.length_map] at hlk
      have hlen : ((l.filter fun x => !q x) ++ m0 :: mid ++ l.drop l.length).length = l.length := by
        simp only [List.length_append, List.length_cons, List.length_drop, hkl]
        omega
      rw [hlen] at hlk
      have hsl := hownk.o.2.2.2.2.2.1
      have hjl : j ≤ l.length := by omega
      have hnlt : ¬ l.length < l.length := by omega
      have hjc : j ≤ capN v := by omega
      (repeat' first
    | with_reducible refine alloc_k fun _ _ _ _ _ _ => ?_
    | ((with_reducible refine at_row ?_); refine row1_k (by rfl) (by decide) fun _ _ _ _ _ _ _ => ?_)
    | with_reducible refine row_k fun _ _ _ _ _ _ => ?_
    | with_reducible refine fork (fun _ => ?_) (fun _ => ?_)
    | with_reducible refine forkp (fun _ => ?_) (fun _ => ?_)
    | with_reducible refine forke (fun _ => ?_) (fun _ _ => ?_)
    | with_reducible refine tail_k fun _ _ _ => ?_
    | with_reducible refine ext_k fun _ _ _ => ?_
    | with_reducible refine need (by first | kernel_rfl | omega | assumption) ?_
    | with_reducible refine st_agg (by kernel_rfl) rfl (by simp only [natV, intV, S3, *]) fun _ _ _ _ => ?_
    | with_reducible refine wpd_quiet_lit (by kernel_rfl) (by kernel_rfl) (by kernel_rfl) ?_
    | simp (maxDischargeDepth := 3) only [↓X, ↓Y, ↓Q, S1, ↓reduceIte, Nat.reduceEqDiff, Nat.reduceAdd, Int.reduceLT, Int.reduceLE, Int.reduceNeg, Int.reduceBEq, Int.reduceBNe, Int.reduceEq, Nat.reduceLeDiff, Nat.reduceMul, Nat.reduceLT, natV, intV, putAt, idxOk, flatP, *, hlk.1]
    | simp (singlePass := true) (maxDischargeDepth := 99) only [*, S2, Nat.reduceLT, hlk.1])
      simp only [sliceX, Int.toNat_natCast]
      refine need ⟨hsl, by omega, by omega, by omega⟩ ?_
      (repeat' first
    | with_reducible refine alloc_k fun _ _ _ _ _ _ => ?_
    | ((with_reducible refine at_row ?_); refine row1_k (by rfl) (by decide) fun _ _ _ _ _ _ _ => ?_)
    | with_reducible refine row_k fun _ _ _ _ _ _ => ?_
    | with_reducible refine fork (fun _ => ?_) (fun _ => ?_)
    | with_reducible refine forkp (fun _ => ?_) (fun _ => ?_)
    | with_reducible refine forke (fun _ => ?_) (fun _ _ => ?_)
    | with_reducible refine tail_k fun _ _ _ => ?_
    | with_reducible refine ext_k fun _ _ _ => ?_
    | with_reducible refine need (by first | kernel_rfl | omega | assumption) ?_
    | with_reducible refine st_agg (by kernel_rfl) rfl (by simp only [natV, intV, S3, *]) fun _ _ _ _ => ?_
    | with_reducible refine wpd_quiet_lit (by kernel_rfl) (by kernel_rfl) (by kernel_rfl) ?_
    | simp (maxDischargeDepth := 3) only [↓X, ↓Y, ↓Q, S1, ↓reduceIte, Nat.reduceEqDiff, Nat.reduceAdd, Int.reduceLT, Int.reduceLE, Int.reduceNeg, Int.reduceBEq, Int.reduceBNe, Int.reduceEq, Nat.reduceLeDiff, Nat.reduceMul, Nat.reduceLT, natV, intV, putAt, idxOk, flatP, *]
    | simp (singlePass := true) (maxDischargeDepth := 99) only [*, S2, Nat.reduceLT])
      refine own_clear (n := j) (by_ := 16) (z := .agg #[.int .i64 0, .int .i64 0]) (by kernel_rfl) (by kernel_rfl) rfl (by decide) hownk (by simp only [List.length_map, hlen]; omega) hbl.size hlk.1.symm fun w9 n9 hown9 hb9 => ?_
      (repeat' first
    | with_reducible refine alloc_k fun _ _ _ _ _ _ => ?_
    | ((with_reducible refine at_row ?_); refine row1_k (by rfl) (by decide) fun _ _ _ _ _ _ _ => ?_)
    | with_reducible refine row_k fun _ _ _ _ _ _ => ?_
    | with_reducible refine fork (fun _ => ?_) (fun _ => ?_)
    | with_reducible refine forkp (fun _ => ?_) (fun _ => ?_)
    | with_reducible refine forke (fun _ => ?_) (fun _ _ => ?_)
    | with_reducible refine tail_k fun _ _ _ => ?_
    | with_reducible refine ext_k fun _ _ _ => ?_
    | with_reducible refine need (by first | kernel_rfl | omega | assumption) ?_
    | with_reducible refine st_agg (by kernel_rfl) rfl (by simp only [natV, intV, S3, *]) fun _ _ _ _ => ?_
    | with_reducible refine wpd_quiet_lit (by kernel_rfl) (by kernel_rfl) (by kernel_rfl) ?_
    | simp (maxDischargeDepth := 3) only [↓X, ↓Y, ↓Q, S1, ↓reduceIte, Nat.reduceEqDiff, Nat.reduceAdd, Int.reduceLT, Int.reduceLE, Int.reduceNeg, Int.reduceBEq, Int.reduceBNe, Int.reduceEq, Nat.reduceLeDiff, Nat.reduceMul, Nat.reduceLT, natV, intV, putAt, idxOk, flatP, *]
    | simp (singlePass := true) (maxDischargeDepth := 99) only [*, S2, Nat.reduceLT])
      simp only [sliceX, Int.toNat_natCast]
      refine need ⟨hsl, by omega, by omega⟩ ?_
      (repeat' first
    | with_reducible refine alloc_k fun _ _ _ _ _ _ => ?_
    | ((with_reducible refine at_row ?_); refine row1_k (by rfl) (by decide) fun _ _ _ _ _ _ _ => ?_)
    | with_reducible refine row_k fun _ _ _ _ _ _ => ?_
    | with_reducible refine fork (fun _ => ?_) (fun _ => ?_)
    | with_reducible refine forkp (fun _ => ?_) (fun _ => ?_)
    | with_reducible refine forke (fun _ => ?_) (fun _ _ => ?_)
    | with_reducible refine tail_k fun _ _ _ => ?_
    | with_reducible refine ext_k fun _ _ _ => ?_
    | with_reducible refine need (by first | kernel_rfl | omega | assumption) ?_
    | with_reducible refine st_agg (by kernel_rfl) rfl (by simp only [natV, intV, S3, *]) fun _ _ _ _ => ?_
    | with_reducible refine wpd_quiet_lit (by kernel_rfl) (by kernel_rfl) (by kernel_rfl) ?_
    | simp (maxDischargeDepth := 3) only [↓X, ↓Y, ↓Q, S1, ↓reduceIte, Nat.reduceEqDiff, Nat.reduceAdd, Int.reduceLT, Int.reduceLE, Int.reduceNeg, Int.reduceBEq, Int.reduceBNe, Int.reduceEq, Nat.reduceLeDiff, Nat.reduceMul, Nat.reduceLT, natV, intV, putAt, idxOk, flatP, *]
    | simp (singlePass := true) (maxDischargeDepth := 99) only [*, S2, Nat.reduceLT])
      refine ⟨hbl.2.trans hb9, ?_⟩
      rw [List.map_append, List.map_append, List.append_assoc, List.take_left' (by rw [List.length_map]; exact hkl)] at hown9
      exact hown9
end
section
variable {w : World} {B B' : Nat} {hv rv hv' rv' : Value} {x y : WorldD}
theorem worldStop1 {r a : ReplicaD} {b : Nat} (hb : Blk w b 41 (replC r)) : Ret Try.prog 61 #[replicaV a, .pointer (some ⟨b, 0, none⟩)] w (.bool (decide (a = r))) := by
  have hn : Now w := trivial
  have hx : Ext w w := Ext.refl w
  have k := hb.bk
  have ho := hb.lt
  (refine callsV_of Try.func61 rfl (by kernel_rfl) (by kernel_rfl) ?_; rw [Try.results61])
  (repeat' first
    | with_reducible refine alloc_k fun _ _ _ _ _ _ => ?_
    | ((with_reducible refine at_row ?_); refine row1_k (by rfl) (by decide) fun _ _ _ _ _ _ _ => ?_)
    | with_reducible refine row_k fun _ _ _ _ _ _ => ?_
    | with_reducible refine fork (fun _ => ?_) (fun _ => ?_)
    | with_reducible refine forkp (fun _ => ?_) (fun _ => ?_)
    | with_reducible refine forke (fun _ => ?_) (fun _ _ => ?_)
    | with_reducible refine tail_k fun _ _ _ => ?_
    | with_reducible refine ext_k fun _ _ _ => ?_
    | with_reducible refine need (by first | kernel_rfl | omega | assumption) ?_
    | with_reducible refine st_agg (by kernel_rfl) rfl (by simp only [natV, intV, S3, *]) fun _ _ _ _ => ?_
    | with_reducible refine wpd_quiet_lit (by kernel_rfl) (by kernel_rfl) (by kernel_rfl) ?_
    | simp (maxDischargeDepth := 3) only [↓X, ↓Y, ↓Q, S1, ↓reduceIte, Nat.reduceEqDiff, Nat.reduceAdd, Int.reduceLT, Int.reduceLE, Int.reduceNeg, Int.reduceBEq, Int.reduceBNe, Int.reduceEq, Nat.reduceLeDiff, Nat.reduceMul, Nat.reduceLT, natV, intV, putAt, idxOk, flatP, *, replicaV, replC, repl_eq]
    | simp (singlePass := true) (maxDischargeDepth := 99) only [*, S2, Nat.reduceLT, replicaV, replC, repl_eq])
theorem worldStop {r : ReplicaD} (hB : B ≤ w.heap.size) (hx0 : WorldR w B hv rv x) (hl1 : x.hosts.length ≤ 1000000) (hl2 : x.replicas.length ≤ 1000000) : CallsV Try.prog 17 #[.agg #[hv, rv], replicaV r] w fun v w' => Ext w w' ∧ ∃ u, v = .tuple #[u, intV (stopE x r)] ∧ OwnW w.heap.size u w' (stopW x r) := by
  have hn : Now w := trivial
  have hx : Ext w w := Ext.refl w
  have hx' := hx0.sk hB
  have hX := hx'.2.2.2.2
  have hl1 : Hid _ := hl1
  have hl2 : Hid _ := hl2
  have hso := fun w' (hb : Bl B w w') (hB' : B ≤ w'.heap.size) => worldSorted hB' (WorldR.r (hX w' hb))
  have hha := fun w' (hb : Bl B w w') (hB' : B ≤ w'.heap.size) => worldHas (r := r) hB' (hX w' hb)
  have h1 : sortedB x.replicas = false → Hid (stopE x r = 1 ∧ stopW x r = noW) := fun h => ⟨by simp [stopE, h], by simp [stopW, stopE, h]⟩
  have h2 : sortedB x.replicas = true → hasB x.replicas r = false → Hid (stopE x r = 7 ∧ stopW x r = noW) := fun h h' => ⟨by simp [stopE, h, h'], by simp [stopW, stopE, h, h']⟩
  have h3 : sortedB x.replicas = true → hasB x.replicas r = true → Hid (stopE x r = 0 ∧ stopW x r = ⟨x.hosts, stopF r x.replicas⟩) := fun h h' => ⟨by simp [stopE, h, h'], by simp [stopW, stopE, h, h']⟩
  generalize sortedB x.replicas = sb at *
  generalize hasB x.replicas r = hb at *
  generalize stopE x r = e at *
  generalize stopW x r = W at *
  have h1 : Hid _ := h1
  have h2 : Hid _ := h2
  have h3 : Hid _ := h3
  (refine callsV_of Try.func17 rfl (by kernel_rfl) (by kernel_rfl) ?_; rw [Try.results17])
  cases sb
  · obtain ⟨rfl, rfl⟩ := (h1.out rfl).out
    clear h1 h2 h3
    (repeat' first
    | with_reducible refine alloc_k fun _ _ _ _ _ _ => ?_
    | ((with_reducible refine at_row ?_); refine row1_k (by rfl) (by decide) fun _ _ _ _ _ _ _ => ?_)
    | with_reducible refine row_k fun _ _ _ _ _ _ => ?_
    | with_reducible refine fork (fun _ => ?_) (fun _ => ?_)
    | with_reducible refine forkp (fun _ => ?_) (fun _ => ?_)
    | with_reducible refine forke (fun _ => ?_) (fun _ _ => ?_)
    | with_reducible refine tail_k fun _ _ _ => ?_
    | with_reducible refine ext_k fun _ _ _ => ?_
    | with_reducible refine need (by first | kernel_rfl | omega | assumption) ?_
    | with_reducible refine st_agg (by kernel_rfl) rfl (by simp only [natV, intV, S3, *]) fun _ _ _ _ => ?_
    | with_reducible refine wpd_quiet_lit (by kernel_rfl) (by kernel_rfl) (by kernel_rfl) ?_
    | ((with_reducible refine at_f 48 ?_); refine ret_k (hso _ FR FR) fun _ _ _ => ?_)
    | ((with_reducible refine at_f 24 ?_); refine ret_k (hha _ FR FR) fun _ _ _ => ?_)
    | simp (maxDischargeDepth := 3) only [↓X, ↓Y, ↓Q, S1, ↓reduceIte, Nat.reduceEqDiff, Nat.reduceAdd, Int.reduceLT, Int.reduceLE, Int.reduceNeg, Int.reduceBEq, Int.reduceBNe, Int.reduceEq, Nat.reduceLeDiff, Nat.reduceMul, Nat.reduceLT, natV, intV, putAt, idxOk, flatP, *, replicaV]
    | simp (singlePass := true) (maxDischargeDepth := 99) only [*, S2, Nat.reduceLT, replicaV])
    all_goals exact ⟨_, rfl, OwnW.none _ _⟩
  · cases hb
    · obtain ⟨rfl, rfl⟩ := (h2.out rfl rfl).out
      clear h1 h2 h3
      (repeat' first
    | with_reducible refine alloc_k fun _ _ _ _ _ _ => ?_
    | ((with_reducible refine at_row ?_); refine row1_k (by rfl) (by decide) fun _ _ _ _ _ _ _ => ?_)
    | with_reducible refine row_k fun _ _ _ _ _ _ => ?_
    | with_reducible refine fork (fun _ => ?_) (fun _ => ?_)
    | with_reducible refine forkp (fun _ => ?_) (fun _ => ?_)
    | with_reducible refine forke (fun _ => ?_) (fun _ _ => ?_)
    | with_reducible refine tail_k fun _ _ _ => ?_
    | with_reducible refine ext_k fun _ _ _ => ?_
    | with_reducible refine need (by first | kernel_rfl | omega | assumption) ?_
    | with_reducible refine st_agg (by kernel_rfl) rfl (by simp only [natV, intV, S3, *]) fun _ _ _ _ => ?_
    | with_reducible refine wpd_quiet_lit (by kernel_rfl) (by kernel_rfl) (by kernel_rfl) ?_
    | ((with_reducible refine at_f 48 ?_); refine ret_k (hso _ FR FR) fun _ _ _ => ?_)
    | ((with_reducible refine at_f 24 ?_); refine ret_k (hha _ FR FR) fun _ _ _ => ?_)
    | simp (maxDischargeDepth := 3) only [↓X, ↓Y, ↓Q, S1, ↓reduceIte, Nat.reduceEqDiff, Nat.reduceAdd, Int.reduceLT, Int.reduceLE, Int.reduceNeg, Int.reduceBEq, Int.reduceBNe, Int.reduceEq, Nat.reduceLeDiff, Nat.reduceMul, Nat.reduceLT, natV, intV, putAt, idxOk, flatP, *, replicaV]
    | simp (singlePass := true) (maxDischargeDepth := 99) only [*, S2, Nat.reduceLT, replicaV])
      all_goals exact ⟨_, rfl, OwnW.none _ _⟩
    · obtain ⟨rfl, rfl⟩ := (h3.out rfl rfl).out
      clear h1 h2 h3
      (repeat' first
    | with_reducible refine alloc_k fun _ _ _ _ _ _ => ?_
    | ((with_reducible refine at_row ?_); refine row1_k (by rfl) (by decide) fun _ _ _ _ _ _ _ => ?_)
    | with_reducible refine row_k fun _ _ _ _ _ _ => ?_
    | with_reducible refine fork (fun _ => ?_) (fun _ => ?_)
    | with_reducible refine forkp (fun _ => ?_) (fun _ => ?_)
    | with_reducible refine forke (fun _ => ?_) (fun _ _ => ?_)
    | with_reducible refine tail_k fun _ _ _ => ?_
    | with_reducible refine ext_k fun _ _ _ => ?_
    | with_reducible refine need (by first | kernel_rfl | omega | assumption) ?_
    | with_reducible refine st_agg (by kernel_rfl) rfl (by simp only [natV, intV, S3, *]) fun _ _ _ _ => ?_
    | with_reducible refine wpd_quiet_lit (by kernel_rfl) (by kernel_rfl) (by kernel_rfl) ?_
    | ((with_reducible refine at_f 48 ?_); refine ret_k (hso _ FR FR) fun _ _ _ => ?_)
    | ((with_reducible refine at_f 24 ?_); refine ret_k (hha _ FR FR) fun _ _ _ => ?_)
    | simp (maxDischargeDepth := 3) only [↓X, ↓Y, ↓Q, S1, ↓reduceIte, Nat.reduceEqDiff, Nat.reduceAdd, Int.reduceLT, Int.reduceLE, Int.reduceNeg, Int.reduceBEq, Int.reduceBNe, Int.reduceEq, Nat.reduceLeDiff, Nat.reduceMul, Nat.reduceLT, natV, intV, putAt, idxOk, flatP, *, replicaV]
    | simp (singlePass := true) (maxDischargeDepth := 99) only [*, S2, Nat.reduceLT, replicaV])
      refine call_k (slicesCloneP (B := B) FR (WorldR.r (hX _ FR)) hl2.out) ?_
      intro c wc nc sc hown
      have oc := hown.o
      (repeat' first
    | with_reducible refine alloc_k fun _ _ _ _ _ _ => ?_
    | ((with_reducible refine at_row ?_); refine row1_k (by rfl) (by decide) fun _ _ _ _ _ _ _ => ?_)
    | with_reducible refine row_k fun _ _ _ _ _ _ => ?_
    | with_reducible refine fork (fun _ => ?_) (fun _ => ?_)
    | with_reducible refine forkp (fun _ => ?_) (fun _ => ?_)
    | with_reducible refine forke (fun _ => ?_) (fun _ _ => ?_)
    | with_reducible refine tail_k fun _ _ _ => ?_
    | with_reducible refine ext_k fun _ _ _ => ?_
    | with_reducible refine need (by first | kernel_rfl | omega | assumption) ?_
    | with_reducible refine st_agg (by kernel_rfl) rfl (by simp only [natV, intV, S3, *]) fun _ _ _ _ => ?_
    | with_reducible refine wpd_quiet_lit (by kernel_rfl) (by kernel_rfl) (by kernel_rfl) ?_
    | simp (maxDischargeDepth := 3) only [↓X, ↓Y, ↓Q, S1, ↓reduceIte, Nat.reduceEqDiff, Nat.reduceAdd, Int.reduceLT, Int.reduceLE, Int.reduceNeg, Int.reduceBEq, Int.reduceBNe, Int.reduceEq, Nat.reduceLeDiff, Nat.reduceMul, Nat.reduceLT, natV, intV, putAt, idxOk, flatP, *]
    | simp (singlePass := true) (maxDischargeDepth := 99) only [*, S2, Nat.reduceLT])
      rename_i b2 w2 n2 k2 s2 q2 b3 w3 n3 k3 s3 q3 b4 w4 n4 k4 s4 q4 w5 n5 s5 w6 n6 s6
      refine call_b (deleteFuncP (cl := 61) (caps := [.pointer (some ⟨b3, 0, none⟩)]) (q := fun a => decide (a = r)) FR hown (by kernel_rfl) fun a w' hb' => worldStop1 (by have sa' := sa_of hb'.2; exact k3.2.1 _ FR)) ?_
      intro d wd nd sd hownd
      have od := hownd.o
      (repeat' first
    | with_reducible refine alloc_k fun _ _ _ _ _ _ => ?_
    | ((with_reducible refine at_row ?_); refine row1_k (by rfl) (by decide) fun _ _ _ _ _ _ _ => ?_)
    | with_reducible refine row_k fun _ _ _ _ _ _ => ?_
    | with_reducible refine fork (fun _ => ?_) (fun _ => ?_)
    | with_reducible refine forkp (fun _ => ?_) (fun _ => ?_)
    | with_reducible refine forke (fun _ => ?_) (fun _ _ => ?_)
    | with_reducible refine tail_k fun _ _ _ => ?_
    | with_reducible refine ext_k fun _ _ _ => ?_
    | with_reducible refine need (by first | kernel_rfl | omega | assumption) ?_
    | with_reducible refine st_agg (by kernel_rfl) rfl (by simp only [natV, intV, S3, *]) fun _ _ _ _ => ?_
    | with_reducible refine wpd_quiet_lit (by kernel_rfl) (by kernel_rfl) (by kernel_rfl) ?_
    | simp (maxDischargeDepth := 3) only [↓X, ↓Y, ↓Q, S1, ↓reduceIte, Nat.reduceEqDiff, Nat.reduceAdd, Int.reduceLT, Int.reduceLE, Int.reduceNeg, Int.reduceBEq, Int.reduceBNe, Int.reduceEq, Nat.reduceLeDiff, Nat.reduceMul, Nat.reduceLT, natV, intV, putAt, idxOk, flatP, *]
    | simp (singlePass := true) (maxDischargeDepth := 99) only [*, S2, Nat.reduceLT])
      refine call_k (worldHosts (B := B) FR (hX _ FR) hl1.out) ?_
      intro e we ne se howne
      have oe := howne.o
      (repeat' first
    | with_reducible refine alloc_k fun _ _ _ _ _ _ => ?_
    | ((with_reducible refine at_row ?_); refine row1_k (by rfl) (by decide) fun _ _ _ _ _ _ _ => ?_)
    | with_reducible refine row_k fun _ _ _ _ _ _ => ?_
    | with_reducible refine fork (fun _ => ?_) (fun _ => ?_)
    | with_reducible refine forkp (fun _ => ?_) (fun _ => ?_)
    | with_reducible refine forke (fun _ => ?_) (fun _ _ => ?_)
    | with_reducible refine tail_k fun _ _ _ => ?_
    | with_reducible refine ext_k fun _ _ _ => ?_
    | with_reducible refine need (by first | kernel_rfl | omega | assumption) ?_
    | with_reducible refine st_agg (by kernel_rfl) rfl (by simp only [natV, intV, S3, *]) fun _ _ _ _ => ?_
    | with_reducible refine wpd_quiet_lit (by kernel_rfl) (by kernel_rfl) (by kernel_rfl) ?_
    | simp (maxDischargeDepth := 3) only [↓X, ↓Y, ↓Q, S1, ↓reduceIte, Nat.reduceEqDiff, Nat.reduceAdd, Int.reduceLT, Int.reduceLE, Int.reduceNeg, Int.reduceBEq, Int.reduceBNe, Int.reduceEq, Nat.reduceLeDiff, Nat.reduceMul, Nat.reduceLT, natV, intV, putAt, idxOk, flatP, *]
    | simp (singlePass := true) (maxDischargeDepth := 99) only [*, S2, Nat.reduceLT])
      exact ⟨_, rfl, _, _, rfl, Own.more (oe.1 _ FR) FR, Own.more (od.1 _ FR) FR⟩
end
end Go.Proofs.Ytbfmabkdggllhaa
