
/- The document's answer, layer 20: Hosts. -/
import Derived.Test.YtgickfllblmhpaaGreatDoorHosts20
namespace Go.Proofs.YtgickfllblmhpaaGreatDoor
set_option linter.unusedSimpArgs false
set_option linter.unusedVariables false
open Go Go.RowKit
set_option maxRecDepth 100000
set_option linter.unusedSectionVars false
set_option maxHeartbeats 2000000
theorem compact_mem {zs : List Int} {x : Int} : x ∈ Lib.compact zs ↔ x ∈ zs := by
  unfold Lib.compact Lib.compactUpTo
  simp only [List.mem_map, List.mem_filter, List.mem_range]
  constructor
  · rintro ⟨j, ⟨hj, _⟩, rfl⟩
    simp [hj]
  · intro hx
    obtain ⟨j, hj, rfl⟩ := List.getElem_of_mem hx
    induction j with
    | zero => exact ⟨0, ⟨hj, Lib.keeps_lt_one _ 0 (by omega)⟩, by simp [hj]⟩
    | succ j ih =>
      cases hk : Lib.keeps zs.toArray (j + 1)
      · have e : zs[j + 1] = zs[j] := by
          by_cases h : zs[j + 1] = zs[j]
          · exact h
          · have := Lib.keeps_pos (d := zs.toArray) (m := j + 1) (by simpa [hj, show j < zs.length by omega] using h)
            rw [this] at hk; cases hk
        obtain ⟨i, hi, he⟩ := ih (by omega) (List.getElem_mem _)
        exact ⟨i, hi, he.trans e.symm⟩
      · exact ⟨j + 1, ⟨hj, hk⟩, by simp [hj]⟩
theorem compact_asc {zs : List Int} (h : zs.Pairwise (· ≤ ·)) : (Lib.compact zs).Pairwise (· < ·) := by
  unfold Lib.compact Lib.compactUpTo
  rw [List.pairwise_map]
  have h1 : ((List.range zs.length).filter (Lib.keeps zs.toArray)).Pairwise (· < ·) := List.Pairwise.filter _ List.pairwise_lt_range
  refine List.Pairwise.imp_of_mem ?_ h1
  intro i j hi hj hij
  simp only [List.mem_filter, List.mem_range] at hi hj
  have hle : ∀ a b (ha : a < zs.length) (hb : b < zs.length), a ≤ b → zs[a] ≤ zs[b] := fun a b ha hb hab => by
    rcases Nat.lt_or_eq_of_le hab with h2 | rfl
    · exact (List.pairwise_iff_getElem.1 h) a b ha hb h2
    · exact Int.le_refl _
  have hk := hj.2
  have e1 := hle i (j - 1) hi.1 (by omega) (by omega)
  have e2 := hle (j - 1) j (by omega) hj.1 (by omega)
  have e3 : zs[j] ≠ zs[j - 1] := fun e => by
    have := Lib.keeps_neg (d := zs.toArray) (m := j) (by omega) (by simp [hj.1, show j - 1 < zs.length by omega, e])
    rw [this] at hk; cases hk
  simp only [List.getElem!_toArray, List.getElem!_eq_getElem?_getD, List.getElem?_eq_getElem hi.1, List.getElem?_eq_getElem hj.1, Option.getD_some]
  omega
theorem sort_asc (l : List Int) : (sortI l).Pairwise (· ≤ ·) := by
  have := List.pairwise_mergeSort (le := fun x y : Int => decide (x ≤ y)) (fun a b c h1 h2 => by simp at *; omega) (fun a b => by simp; omega) l
  exact this.imp fun h => by simpa using h
theorem hostsI_asc (p : PlanD) : (hostsI p).Pairwise (· < ·) := compact_asc (sort_asc _)
theorem hostsI_mem {p : PlanD} {x : Int} : x ∈ hostsI p ↔ x ∈ p.steps.map (·.host) := by rw [hostsI, compact_mem, List.mem_mergeSort]
theorem hostsI_len (p : PlanD) : (hostsI p).length ≤ p.steps.length := by
  have := Lib.compact_length_le (sortI (p.steps.map (·.host)))
  rwa [List.length_mergeSort, List.length_map] at this
/-- h lies above the first j of D. -/
def abvB (D : List Int) (j : Nat) (h : Int) : Bool := j == 0 || decide (D.getD (j - 1) 0 < h)
def Inn (D : List Int) (j : Nat) (L : List Int) (fd : Bool) (nx : Int) : Prop := (fd = false → ∀ h ∈ L, abvB D j h = false) ∧ (fd = true → nx ∈ L ∧ abvB D j nx = true ∧ ∀ h ∈ L, abvB D j h = true → nx ≤ h)
theorem Inn.nil (D : List Int) (j : Nat) (nx : Int) : Inn D j [] false nx := ⟨fun _ h hh => absurd hh (by simp), fun h => by cases h⟩
theorem Inn.take {D : List Int} {j : Nat} {L : List Int} {fd : Bool} {nx h : Int} (H : Inn D j L fd nx) (ha : abvB D j h = true) (hb : fd = false ∨ h < nx) : Inn D j (L ++ [h]) true h := by
  refine ⟨fun e => (by cases e), fun _ => ⟨by simp, ha, fun x hx hax => ?_⟩⟩
  rcases List.mem_append.1 hx with hx | hx
  · cases fd
    · rw [H.1 rfl x hx] at hax; cases hax
    · have := (H.2 rfl).2.2 x hx hax
      rcases hb with hb | hb
      · cases hb
      · omega
  · simp at hx; omega
theorem Inn.skip {D : List Int} {j : Nat} {L : List Int} {fd : Bool} {nx h : Int} (H : Inn D j L fd nx) (hn : abvB D j h = false ∨ (fd = true ∧ nx ≤ h)) : Inn D j (L ++ [h]) fd nx := by
  refine ⟨fun e x hx => ?_, fun e => ⟨by simp [(H.2 e).1], (H.2 e).2.1, fun x hx hax => ?_⟩⟩
  · rcases List.mem_append.1 hx with hx | hx
    · exact H.1 e x hx
    · simp at hx; subst hx
      rcases hn with hn | hn
      · exact hn
      · rw [e] at hn; cases hn.1
  · rcases List.mem_append.1 hx with hx | hx
    · exact (H.2 e).2.2 x hx hax
    · simp at hx; subst hx
      rcases hn with hn | hn
      · rw [hn] at hax; cases hax
      · exact hn.2
theorem Inn.done {D H : List Int} {j : Nat} {fd : Bool} {nx : Int} (hasc : D.Pairwise (· < ·)) (hm : ∀ x, x ∈ D ↔ x ∈ H) (hj : j ≤ D.length) (h : Inn D j H fd nx) : (fd = false → j = D.length) ∧ (fd = true → ∃ hlt : j < D.length, nx = D[j]) := by
  have habv : ∀ i (hi : i < D.length), abvB D j D[i] = true ↔ j ≤ i := fun i hi => by
    unfold abvB
    by_cases h0 : j = 0
    · simp [h0]
    · have hj1 : j - 1 < D.length := by omega
      simp only [h0, beq_iff_eq, List.getD_eq_getElem?_getD, List.getElem?_eq_getElem hj1, Option.getD_some, Bool.or_eq_true, false_or, decide_eq_true_eq]
      constructor
      · intro hl
        by_cases hc : j ≤ i
        · exact hc
        · exfalso
          rcases Nat.lt_or_eq_of_le (show i ≤ j - 1 by omega) with h2 | h2
          · have := (List.pairwise_iff_getElem.1 hasc) i (j - 1) hi hj1 h2; omega
          · subst h2; omega
      · intro hl
        exact (List.pairwise_iff_getElem.1 hasc) (j - 1) i hj1 hi (by omega)
  refine ⟨fun e => ?_, fun e => ?_⟩
  · by_cases hc : j = D.length
    · exact hc
    · have hlt : j < D.length := by omega
      have := h.1 e D[j] ((hm _).1 (List.getElem_mem hlt))
      rw [(habv j hlt).2 (Nat.le_refl _)] at this; cases this
  · obtain ⟨h1, h2, h3⟩ := h.2 e
    obtain ⟨i, hi, rfl⟩ := List.getElem_of_mem ((hm _).2 h1)
    have hji := (habv i hi).1 h2
    have hlt : j < D.length := by omega
    refine ⟨hlt, ?_⟩
    have h4 := h3 D[j] ((hm _).1 (List.getElem_mem hlt)) ((habv j hlt).2 (Nat.le_refl _))
    rcases Nat.lt_or_eq_of_le hji with h5 | h5
    · have := (List.pairwise_iff_getElem.1 hasc) j i hlt hi h5; omega
    · subst h5; rfl
section
variable {w : World} {B : Nat} {sv av : Value} {vs : List Value} {p : PlanD}
theorem ref20Hosts (hB : B ≤ w.heap.size) (hpl : PlanR w B sv av vs p) (hn : p.steps.length ≤ 60) : CallsV Tryz.prog 25 #[.agg #[sv, av]] w fun r w' => Ext w w' ∧ Own w' w.heap.size 3 1 r ((hostsI p).map intC) := by
  have hn : Now w := trivial
  have hx : Ext w w := Ext.refl w
  have hp' := hpl.sk hB
  have hF := hpl.s.fk
  have hasc := hostsI_asc p
  have hmem := fun x => hostsI_mem (p := p) (x := x)
  have hDl := hostsI_len p
  generalize hostsI p = D at *
  have hkey : Hid _ := (And.intro hasc hmem)
  clear hasc hmem
  (refine callsV_of Tryz.func25 rfl (by kernel_rfl) (by kernel_rfl) ?_; rw [Tryz.results25])
  (repeat' first
    | ((with_reducible refine at_row ?_); refine row1_k (by rfl) (by decide) fun _ _ _ _ _ _ _ => ?_)
    | with_reducible first | refine alloc_k fun _ _ _ _ _ _ => ?_ | refine row_k fun _ _ _ _ _ _ => ?_ | refine fork (fun _ => ?_) fun _ => ?_ | refine forkp (fun _ => ?_) fun _ => ?_ | refine forke (fun _ => ?_) fun _ _ => ?_ | refine tail_k fun _ _ _ => ?_ | refine ext_k fun _ _ _ => ?_ | refine need_a ?_ | refine st_agg (by kernel_rfl) rfl (by simp only [natV, intV, S3, *]) fun _ _ _ _ => ?_ | refine wpd_q_a ?_
    | simp (maxDischargeDepth := 3) only [↓X, ↓Y, ↓Q, S1, ↓reduceIte, Nat.reduceEqDiff, Nat.reduceAdd, Int.reduceLT, Int.reduceLE, Int.reduceNeg, Int.reduceBEq, Int.reduceBNe, Int.reduceEq, Nat.reduceLeDiff, Nat.reduceMul, Nat.reduceLT, natV, intV, putAt, idxOk, flatP, *]
    | simp (singlePass := true) (maxDischargeDepth := 99) only [*, S2, Nat.reduceLT])
  refine loop_o (D.length + 1) (fun w0 g0 j g w' => (g 1 = g0 1) ∧ j ≤ D.length ∧ ∃ v, g 3 = v ∧ Own w' w0.heap.size 3 1 v ((D.take j).map intC)) (by kernel_rfl) (by omega) ?_ ?_ ?_
  · (repeat' first
    | ((with_reducible refine at_row ?_); refine row1_k (by rfl) (by decide) fun _ _ _ _ _ _ _ => ?_)
    | with_reducible first | refine alloc_k fun _ _ _ _ _ _ => ?_ | refine row_k fun _ _ _ _ _ _ => ?_ | refine fork (fun _ => ?_) fun _ => ?_ | refine forkp (fun _ => ?_) fun _ => ?_ | refine forke (fun _ => ?_) fun _ _ => ?_ | refine tail_k fun _ _ _ => ?_ | refine ext_k fun _ _ _ => ?_ | refine need_a ?_ | refine st_agg (by kernel_rfl) rfl (by simp only [natV, intV, S3, *]) fun _ _ _ _ => ?_ | refine wpd_q_a ?_
    | simp (maxDischargeDepth := 3) only [↓X, ↓Y, ↓Q, S1, ↓reduceIte, Nat.reduceEqDiff, Nat.reduceAdd, Int.reduceLT, Int.reduceLE, Int.reduceNeg, Int.reduceBEq, Int.reduceBNe, Int.reduceEq, Nat.reduceLeDiff, Nat.reduceMul, Nat.reduceLT, natV, intV, putAt, idxOk, flatP, *]
    | simp (singlePass := true) (maxDischargeDepth := 99) only [*, S2, Nat.reduceLT])
    exact ⟨by omega, _, rfl, Own.nil _ _ _ _⟩
  · rintro j mj g wk hjk hjt nk sk bk hjw ⟨hf, hjD, v, hv5, hown⟩
    simp (maxDischargeDepth := 3) only [U, ↓reduceIte, Nat.reduceEqDiff, *] at hf
    have bw : Bl wk.heap.size wk wk := Bl.refl (Nat.le_refl _)
    have O := hown.o
    have hlen : (D.take j).length = j := by rw [List.length_take]; omega
    have L := (hown.sl1 (f := fun x : Int => Value.int .i64 x)).k (Nat.le_refl _)
    clear hown
    (repeat' first
    | ((with_reducible refine at_row ?_); refine row1_k (by rfl) (by decide) fun _ _ _ _ _ _ _ => ?_)
    | with_reducible first | refine alloc_k fun _ _ _ _ _ _ => ?_ | refine row_k fun _ _ _ _ _ _ => ?_ | refine fork (fun _ => ?_) fun _ => ?_ | refine forkp (fun _ => ?_) fun _ => ?_ | refine forke (fun _ => ?_) fun _ _ => ?_ | refine tail_k fun _ _ _ => ?_ | refine ext_k fun _ _ _ => ?_ | refine need_a ?_ | refine st_agg (by kernel_rfl) rfl (by simp only [natV, intV, S3, *]) fun _ _ _ _ => ?_ | refine wpd_q_a ?_
    | simp (maxDischargeDepth := 3) only [↓X, ↓Y, ↓Q, S1, ↓reduceIte, Nat.reduceEqDiff, Nat.reduceAdd, Int.reduceLT, Int.reduceLE, Int.reduceNeg, Int.reduceBEq, Int.reduceBNe, Int.reduceEq, Nat.reduceLeDiff, Nat.reduceMul, Nat.reduceLT, natV, intV, putAt, idxOk, flatP, *]
    | simp (singlePass := true) (maxDischargeDepth := 99) only [*, S2, Nat.reduceLT])
    refine loop_k (p.steps.length) (fun g0 k g _ => g 6 = .int .i64 k ∧ (g 1 = g0 1 ∧ g 3 = g0 3) ∧ ∃ (fd : Bool) (nx : Int), g 5 = .bool fd ∧ g 4 = .int .i64 nx ∧ Hid (Inn D j ((p.steps.take k).map (·.host)) fd nx)) (by kernel_rfl) (by omega) ?_ ?_ ?_
    · (repeat' first
    | ((with_reducible refine at_row ?_); refine row1_k (by rfl) (by decide) fun _ _ _ _ _ _ _ => ?_)
    | with_reducible first | refine alloc_k fun _ _ _ _ _ _ => ?_ | refine row_k fun _ _ _ _ _ _ => ?_ | refine fork (fun _ => ?_) fun _ => ?_ | refine forkp (fun _ => ?_) fun _ => ?_ | refine forke (fun _ => ?_) fun _ _ => ?_ | refine tail_k fun _ _ _ => ?_ | refine ext_k fun _ _ _ => ?_ | refine need_a ?_ | refine st_agg (by kernel_rfl) rfl (by simp only [natV, intV, S3, *]) fun _ _ _ _ => ?_ | refine wpd_q_a ?_
    | simp (maxDischargeDepth := 3) only [↓X, ↓Y, ↓Q, S1, ↓reduceIte, Nat.reduceEqDiff, Nat.reduceAdd, Int.reduceLT, Int.reduceLE, Int.reduceNeg, Int.reduceBEq, Int.reduceBNe, Int.reduceEq, Nat.reduceLeDiff, Nat.reduceMul, Nat.reduceLT, natV, intV, putAt, idxOk, flatP, *, List.take_zero, List.all_nil, List.any_nil]
    | simp (singlePass := true) (maxDischargeDepth := 99) only [*, S2, Nat.reduceLT, List.take_zero, List.all_nil, List.any_nil])
      exact ⟨false, 0, rfl, rfl, Inn.nil _ _ _⟩
    · rintro k m g wk hk hlt _ _ _ hw ⟨hi, hf, hp⟩
      simp (maxDischargeDepth := 3) only [U, ↓reduceIte, Nat.reduceEqDiff, *] at hf
      obtain ⟨fd, nx, h5, h4, hin⟩ := hp
      have hst : (p.steps.take (k + 1)).map (·.host) = (p.steps.take k).map (·.host) ++ [p.steps[k].host] := by rw [List.take_succ_eq_append_getElem hlt, List.map_append]; rfl
      have hst : Hid _ := hst
      rcases j with _ | j
      · cases fd
        · (repeat' first
    | ((with_reducible refine at_row ?_); refine row1_k (by rfl) (by decide) fun _ _ _ _ _ _ _ => ?_)
    | with_reducible first | refine alloc_k fun _ _ _ _ _ _ => ?_ | refine row_k fun _ _ _ _ _ _ => ?_ | refine fork (fun _ => ?_) fun _ => ?_ | refine forkp (fun _ => ?_) fun _ => ?_ | refine forke (fun _ => ?_) fun _ _ => ?_ | refine tail_k fun _ _ _ => ?_ | refine ext_k fun _ _ _ => ?_ | refine need_a ?_ | refine st_agg (by kernel_rfl) rfl (by simp only [natV, intV, S3, *]) fun _ _ _ _ => ?_ | refine wpd_q_a ?_
    | simp (maxDischargeDepth := 3) only [↓X, ↓Y, ↓Q, S1, ↓reduceIte, Nat.reduceEqDiff, Nat.reduceAdd, Int.reduceLT, Int.reduceLE, Int.reduceNeg, Int.reduceBEq, Int.reduceBNe, Int.reduceEq, Nat.reduceLeDiff, Nat.reduceMul, Nat.reduceLT, natV, intV, putAt, idxOk, flatP, *, stepV, stepC, hlen]
    | simp (singlePass := true) (maxDischargeDepth := 99) only [*, S2, Nat.reduceLT, stepV, stepC, hlen])
          refine next_k hk hlt ?_ FR
          (repeat' first
    | ((with_reducible refine at_row ?_); refine row1_k (by rfl) (by decide) fun _ _ _ _ _ _ _ => ?_)
    | with_reducible first | refine alloc_k fun _ _ _ _ _ _ => ?_ | refine row_k fun _ _ _ _ _ _ => ?_ | refine fork (fun _ => ?_) fun _ => ?_ | refine forkp (fun _ => ?_) fun _ => ?_ | refine forke (fun _ => ?_) fun _ _ => ?_ | refine tail_k fun _ _ _ => ?_ | refine ext_k fun _ _ _ => ?_ | refine need_a ?_ | refine st_agg (by kernel_rfl) rfl (by simp only [natV, intV, S3, *]) fun _ _ _ _ => ?_ | refine wpd_q_a ?_
    | simp (maxDischargeDepth := 3) only [↓X, ↓Y, ↓Q, S1, ↓reduceIte, Nat.reduceEqDiff, Nat.reduceAdd, Int.reduceLT, Int.reduceLE, Int.reduceNeg, Int.reduceBEq, Int.reduceBNe, Int.reduceEq, Nat.reduceLeDiff, Nat.reduceMul, Nat.reduceLT, natV, intV, putAt, idxOk, flatP, *]
    | simp (singlePass := true) (maxDischargeDepth := 99) only [*, S2, Nat.reduceLT])
          refine ⟨_, _, rfl, rfl, ?_⟩
          show Inn _ _ _ _ _
          exact hin.out.take rfl (.inl rfl)
        · (repeat' first
    | ((with_reducible refine at_row ?_); refine row1_k (by rfl) (by decide) fun _ _ _ _ _ _ _ => ?_)
    | with_reducible first | refine alloc_k fun _ _ _ _ _ _ => ?_ | refine row_k fun _ _ _ _ _ _ => ?_ | refine fork (fun _ => ?_) fun _ => ?_ | refine forkp (fun _ => ?_) fun _ => ?_ | refine forke (fun _ => ?_) fun _ _ => ?_ | refine tail_k fun _ _ _ => ?_ | refine ext_k fun _ _ _ => ?_ | refine need_a ?_ | refine st_agg (by kernel_rfl) rfl (by simp only [natV, intV, S3, *]) fun _ _ _ _ => ?_ | refine wpd_q_a ?_
    | simp (maxDischargeDepth := 3) only [↓X, ↓Y, ↓Q, S1, ↓reduceIte, Nat.reduceEqDiff, Nat.reduceAdd, Int.reduceLT, Int.reduceLE, Int.reduceNeg, Int.reduceBEq, Int.reduceBNe, Int.reduceEq, Nat.reduceLeDiff, Nat.reduceMul, Nat.reduceLT, natV, intV, putAt, idxOk, flatP, *, stepV, stepC, hlen]
    | simp (singlePass := true) (maxDischargeDepth := 99) only [*, S2, Nat.reduceLT, stepV, stepC, hlen])
          · rename_i hlt9
            refine next_k hk hlt ?_ FR
            (repeat' first
    | ((with_reducible refine at_row ?_); refine row1_k (by rfl) (by decide) fun _ _ _ _ _ _ _ => ?_)
    | with_reducible first | refine alloc_k fun _ _ _ _ _ _ => ?_ | refine row_k fun _ _ _ _ _ _ => ?_ | refine fork (fun _ => ?_) fun _ => ?_ | refine forkp (fun _ => ?_) fun _ => ?_ | refine forke (fun _ => ?_) fun _ _ => ?_ | refine tail_k fun _ _ _ => ?_ | refine ext_k fun _ _ _ => ?_ | refine need_a ?_ | refine st_agg (by kernel_rfl) rfl (by simp only [natV, intV, S3, *]) fun _ _ _ _ => ?_ | refine wpd_q_a ?_
    | simp (maxDischargeDepth := 3) only [↓X, ↓Y, ↓Q, S1, ↓reduceIte, Nat.reduceEqDiff, Nat.reduceAdd, Int.reduceLT, Int.reduceLE, Int.reduceNeg, Int.reduceBEq, Int.reduceBNe, Int.reduceEq, Nat.reduceLeDiff, Nat.reduceMul, Nat.reduceLT, natV, intV, putAt, idxOk, flatP, *]
    | simp (singlePass := true) (maxDischargeDepth := 99) only [*, S2, Nat.reduceLT])
            refine ⟨_, _, rfl, rfl, ?_⟩
            show Inn _ _ _ _ _
            exact hin.out.take rfl (.inr (by omega))
          · rename_i hlt9
            refine next_k hk hlt ?_ FR
            (repeat' first
    | ((with_reducible refine at_row ?_); refine row1_k (by rfl) (by decide) fun _ _ _ _ _ _ _ => ?_)
    | with_reducible first | refine alloc_k fun _ _ _ _ _ _ => ?_ | refine row_k fun _ _ _ _ _ _ => ?_ | refine fork (fun _ => ?_) fun _ => ?_ | refine forkp (fun _ => ?_) fun _ => ?_ | refine forke (fun _ => ?_) fun _ _ => ?_ | refine tail_k fun _ _ _ => ?_ | refine ext_k fun _ _ _ => ?_ | refine need_a ?_ | refine st_agg (by kernel_rfl) rfl (by simp only [natV, intV, S3, *]) fun _ _ _ _ => ?_ | refine wpd_q_a ?_
    | simp (maxDischargeDepth := 3) only [↓X, ↓Y, ↓Q, S1, ↓reduceIte, Nat.reduceEqDiff, Nat.reduceAdd, Int.reduceLT, Int.reduceLE, Int.reduceNeg, Int.reduceBEq, Int.reduceBNe, Int.reduceEq, Nat.reduceLeDiff, Nat.reduceMul, Nat.reduceLT, natV, intV, putAt, idxOk, flatP, *]
    | simp (singlePass := true) (maxDischargeDepth := 99) only [*, S2, Nat.reduceLT])
            refine ⟨_, _, rfl, rfl, ?_⟩
            show Inn _ _ _ _ _
            exact hin.out.skip (.inr ⟨rfl, by omega⟩)
      · have hwj : IntKind.i64.wrap (((j + 1 : Nat) : Int) - 1) = (j : Int) := by rw [wrap_i64_id] <;> omega
        have hne : ¬ ((j + 1 : Nat) : Int) = 0 := by omega
        have hbe : (((j + 1 : Nat) : Int) == 0) = false := by simpa using hne
        have hrd : rdv none wk (elemAt v 1 j) = some (.int .i64 D[j]) := by
          have := L.2.2.2.2.2.1 wk FR j (by omega)
          rwa [List.getElem_take] at this
        have hab : ∀ h, abvB D (j + 1) h = decide (D[j] < h) := fun h => by simp [abvB, show j < D.length by omega]
        cases fd
        · (repeat' first
    | ((with_reducible refine at_row ?_); refine row1_k (by rfl) (by decide) fun _ _ _ _ _ _ _ => ?_)
    | with_reducible first | refine alloc_k fun _ _ _ _ _ _ => ?_ | refine row_k fun _ _ _ _ _ _ => ?_ | refine fork (fun _ => ?_) fun _ => ?_ | refine forkp (fun _ => ?_) fun _ => ?_ | refine forke (fun _ => ?_) fun _ _ => ?_ | refine tail_k fun _ _ _ => ?_ | refine ext_k fun _ _ _ => ?_ | refine need_a ?_ | refine st_agg (by kernel_rfl) rfl (by simp only [natV, intV, S3, *]) fun _ _ _ _ => ?_ | refine wpd_q_a ?_
    | simp (maxDischargeDepth := 3) only [↓X, ↓Y, ↓Q, S1, ↓reduceIte, Nat.reduceEqDiff, Nat.reduceAdd, Int.reduceLT, Int.reduceLE, Int.reduceNeg, Int.reduceBEq, Int.reduceBNe, Int.reduceEq, Nat.reduceLeDiff, Nat.reduceMul, Nat.reduceLT, natV, intV, putAt, idxOk, flatP, *, stepV, stepC, hlen, hne, hbe, hrd]
    | simp (singlePass := true) (maxDischargeDepth := 99) only [*, S2, Nat.reduceLT, stepV, stepC, hlen, hne, hbe, hrd])
          · refine next_k hk hlt ?_ FR
            (repeat' first
    | ((with_reducible refine at_row ?_); refine row1_k (by rfl) (by decide) fun _ _ _ _ _ _ _ => ?_)
    | with_reducible first | refine alloc_k fun _ _ _ _ _ _ => ?_ | refine row_k fun _ _ _ _ _ _ => ?_ | refine fork (fun _ => ?_) fun _ => ?_ | refine forkp (fun _ => ?_) fun _ => ?_ | refine forke (fun _ => ?_) fun _ _ => ?_ | refine tail_k fun _ _ _ => ?_ | refine ext_k fun _ _ _ => ?_ | refine need_a ?_ | refine st_agg (by kernel_rfl) rfl (by simp only [natV, intV, S3, *]) fun _ _ _ _ => ?_ | refine wpd_q_a ?_
    | simp (maxDischargeDepth := 3) only [↓X, ↓Y, ↓Q, S1, ↓reduceIte, Nat.reduceEqDiff, Nat.reduceAdd, Int.reduceLT, Int.reduceLE, Int.reduceNeg, Int.reduceBEq, Int.reduceBNe, Int.reduceEq, Nat.reduceLeDiff, Nat.reduceMul, Nat.reduceLT, natV, intV, putAt, idxOk, flatP, *]
    | simp (singlePass := true) (maxDischargeDepth := 99) only [*, S2, Nat.reduceLT])
            refine ⟨_, _, rfl, rfl, ?_⟩
            show Inn _ _ _ _ _
            exact hin.out.take (by rw [hab]; exact decide_eq_true (by omega)) (.inl rfl)
          · refine next_k hk hlt ?_ FR
            (repeat' first
    | ((with_reducible refine at_row ?_); refine row1_k (by rfl) (by decide) fun _ _ _ _ _ _ _ => ?_)
    | with_reducible first | refine alloc_k fun _ _ _ _ _ _ => ?_ | refine row_k fun _ _ _ _ _ _ => ?_ | refine fork (fun _ => ?_) fun _ => ?_ | refine forkp (fun _ => ?_) fun _ => ?_ | refine forke (fun _ => ?_) fun _ _ => ?_ | refine tail_k fun _ _ _ => ?_ | refine ext_k fun _ _ _ => ?_ | refine need_a ?_ | refine st_agg (by kernel_rfl) rfl (by simp only [natV, intV, S3, *]) fun _ _ _ _ => ?_ | refine wpd_q_a ?_
    | simp (maxDischargeDepth := 3) only [↓X, ↓Y, ↓Q, S1, ↓reduceIte, Nat.reduceEqDiff, Nat.reduceAdd, Int.reduceLT, Int.reduceLE, Int.reduceNeg, Int.reduceBEq, Int.reduceBNe, Int.reduceEq, Nat.reduceLeDiff, Nat.reduceMul, Nat.reduceLT, natV, intV, putAt, idxOk, flatP, *]
    | simp (singlePass := true) (maxDischargeDepth := 99) only [*, S2, Nat.reduceLT])
            refine ⟨_, _, rfl, rfl, ?_⟩
            show Inn _ _ _ _ _
            exact hin.out.skip (.inl (by rw [hab]; exact decide_eq_false (by omega)))
        · (repeat' first
    | ((with_reducible refine at_row ?_); refine row1_k (by rfl) (by decide) fun _ _ _ _ _ _ _ => ?_)
    | with_reducible first | refine alloc_k fun _ _ _ _ _ _ => ?_ | refine row_k fun _ _ _ _ _ _ => ?_ | refine fork (fun _ => ?_) fun _ => ?_ | refine forkp (fun _ => ?_) fun _ => ?_ | refine forke (fun _ => ?_) fun _ _ => ?_ | refine tail_k fun _ _ _ => ?_ | refine ext_k fun _ _ _ => ?_ | refine need_a ?_ | refine st_agg (by kernel_rfl) rfl (by simp only [natV, intV, S3, *]) fun _ _ _ _ => ?_ | refine wpd_q_a ?_
    | simp (maxDischargeDepth := 3) only [↓X, ↓Y, ↓Q, S1, ↓reduceIte, Nat.reduceEqDiff, Nat.reduceAdd, Int.reduceLT, Int.reduceLE, Int.reduceNeg, Int.reduceBEq, Int.reduceBNe, Int.reduceEq, Nat.reduceLeDiff, Nat.reduceMul, Nat.reduceLT, natV, intV, putAt, idxOk, flatP, *, stepV, stepC, hlen, hne, hbe, hrd]
    | simp (singlePass := true) (maxDischargeDepth := 99) only [*, S2, Nat.reduceLT, stepV, stepC, hlen, hne, hbe, hrd])
          all_goals
            refine next_k hk hlt ?_ FR
            (repeat' first
    | ((with_reducible refine at_row ?_); refine row1_k (by rfl) (by decide) fun _ _ _ _ _ _ _ => ?_)
    | with_reducible first | refine alloc_k fun _ _ _ _ _ _ => ?_ | refine row_k fun _ _ _ _ _ _ => ?_ | refine fork (fun _ => ?_) fun _ => ?_ | refine forkp (fun _ => ?_) fun _ => ?_ | refine forke (fun _ => ?_) fun _ _ => ?_ | refine tail_k fun _ _ _ => ?_ | refine ext_k fun _ _ _ => ?_ | refine need_a ?_ | refine st_agg (by kernel_rfl) rfl (by simp only [natV, intV, S3, *]) fun _ _ _ _ => ?_ | refine wpd_q_a ?_
    | simp (maxDischargeDepth := 3) only [↓X, ↓Y, ↓Q, S1, ↓reduceIte, Nat.reduceEqDiff, Nat.reduceAdd, Int.reduceLT, Int.reduceLE, Int.reduceNeg, Int.reduceBEq, Int.reduceBNe, Int.reduceEq, Nat.reduceLeDiff, Nat.reduceMul, Nat.reduceLT, natV, intV, putAt, idxOk, flatP, *]
    | simp (singlePass := true) (maxDischargeDepth := 99) only [*, S2, Nat.reduceLT])
            refine ⟨_, _, rfl, rfl, ?_⟩
            show Inn _ _ _ _ _
            first
              | exact hin.out.take (by rw [hab]; exact decide_eq_true (by omega)) (.inr (by omega))
              | exact hin.out.skip (.inr ⟨rfl, by omega⟩)
              | exact hin.out.skip (.inl (by rw [hab]; exact decide_eq_false (by omega)))
    · rintro g wk _ _ _ ⟨hi, hf, hp⟩
      simp (maxDischargeDepth := 3) only [U, ↓reduceIte, Nat.reduceEqDiff, *] at hf
      obtain ⟨fd, nx, h5, h4, hin⟩ := hp
      rw [List.take_length] at hin
      have hdn := Inn.done hkey.out.1 hkey.out.2 hjD hin.out
      clear hin
      cases fd
      · have hj9 := hdn.1 rfl
        clear hdn
        subst hj9
        rw [List.take_length] at O
        (repeat' first
    | ((with_reducible refine at_row ?_); refine row1_k (by rfl) (by decide) fun _ _ _ _ _ _ _ => ?_)
    | with_reducible first | refine alloc_k fun _ _ _ _ _ _ => ?_ | refine row_k fun _ _ _ _ _ _ => ?_ | refine fork (fun _ => ?_) fun _ => ?_ | refine forkp (fun _ => ?_) fun _ => ?_ | refine forke (fun _ => ?_) fun _ _ => ?_ | refine tail_k fun _ _ _ => ?_ | refine ext_k fun _ _ _ => ?_ | refine need_a ?_ | refine st_agg (by kernel_rfl) rfl (by simp only [natV, intV, S3, *]) fun _ _ _ _ => ?_ | refine wpd_q_a ?_
    | simp (maxDischargeDepth := 3) only [↓X, ↓Y, ↓Q, S1, ↓reduceIte, Nat.reduceEqDiff, Nat.reduceAdd, Int.reduceLT, Int.reduceLE, Int.reduceNeg, Int.reduceBEq, Int.reduceBNe, Int.reduceEq, Nat.reduceLeDiff, Nat.reduceMul, Nat.reduceLT, natV, intV, putAt, idxOk, flatP, *]
    | simp (singlePass := true) (maxDischargeDepth := 99) only [*, S2, Nat.reduceLT])
        exact (O.1 _ FR).more FR
      · obtain ⟨hltD, rfl⟩ := hdn.2 rfl
        clear hdn
        (repeat' first
    | ((with_reducible refine at_row ?_); refine row1_k (by rfl) (by decide) fun _ _ _ _ _ _ _ => ?_)
    | with_reducible first | refine alloc_k fun _ _ _ _ _ _ => ?_ | refine row_k fun _ _ _ _ _ _ => ?_ | refine fork (fun _ => ?_) fun _ => ?_ | refine forkp (fun _ => ?_) fun _ => ?_ | refine forke (fun _ => ?_) fun _ _ => ?_ | refine tail_k fun _ _ _ => ?_ | refine ext_k fun _ _ _ => ?_ | refine need_a ?_ | refine st_agg (by kernel_rfl) rfl (by simp only [natV, intV, S3, *]) fun _ _ _ _ => ?_ | refine wpd_q_a ?_
    | simp (maxDischargeDepth := 3) only [↓X, ↓Y, ↓Q, S1, ↓reduceIte, Nat.reduceEqDiff, Nat.reduceAdd, Int.reduceLT, Int.reduceLE, Int.reduceNeg, Int.reduceBEq, Int.reduceBNe, Int.reduceEq, Nat.reduceLeDiff, Nat.reduceMul, Nat.reduceLT, natV, intV, putAt, idxOk, flatP, *]
    | simp (singlePass := true) (maxDischargeDepth := 99) only [*, S2, Nat.reduceLT])
        rename_i b10 w10 n10 k10 s10 q10 l10
        refine appZ D[j] (O.1 _ FR) (k10.2.1 _ FR) (by omega) FR fun v' w9 n9 s9 hown9 => ?_
        (repeat' first
    | ((with_reducible refine at_row ?_); refine row1_k (by rfl) (by decide) fun _ _ _ _ _ _ _ => ?_)
    | with_reducible first | refine alloc_k fun _ _ _ _ _ _ => ?_ | refine row_k fun _ _ _ _ _ _ => ?_ | refine fork (fun _ => ?_) fun _ => ?_ | refine forkp (fun _ => ?_) fun _ => ?_ | refine forke (fun _ => ?_) fun _ _ => ?_ | refine tail_k fun _ _ _ => ?_ | refine ext_k fun _ _ _ => ?_ | refine need_a ?_ | refine st_agg (by kernel_rfl) rfl (by simp only [natV, intV, S3, *]) fun _ _ _ _ => ?_ | refine wpd_q_a ?_
    | simp (maxDischargeDepth := 3) only [↓X, ↓Y, ↓Q, S1, ↓reduceIte, Nat.reduceEqDiff, Nat.reduceAdd, Int.reduceLT, Int.reduceLE, Int.reduceNeg, Int.reduceBEq, Int.reduceBNe, Int.reduceEq, Nat.reduceLeDiff, Nat.reduceMul, Nat.reduceLT, natV, intV, putAt, idxOk, flatP, *]
    | simp (singlePass := true) (maxDischargeDepth := 99) only [*, S2, Nat.reduceLT])
        refine next_k hjk hjt ?_ FR
        (repeat' first
    | ((with_reducible refine at_row ?_); refine row1_k (by rfl) (by decide) fun _ _ _ _ _ _ _ => ?_)
    | with_reducible first | refine alloc_k fun _ _ _ _ _ _ => ?_ | refine row_k fun _ _ _ _ _ _ => ?_ | refine fork (fun _ => ?_) fun _ => ?_ | refine forkp (fun _ => ?_) fun _ => ?_ | refine forke (fun _ => ?_) fun _ _ => ?_ | refine tail_k fun _ _ _ => ?_ | refine ext_k fun _ _ _ => ?_ | refine need_a ?_ | refine st_agg (by kernel_rfl) rfl (by simp only [natV, intV, S3, *]) fun _ _ _ _ => ?_ | refine wpd_q_a ?_
    | simp (maxDischargeDepth := 3) only [↓X, ↓Y, ↓Q, S1, ↓reduceIte, Nat.reduceEqDiff, Nat.reduceAdd, Int.reduceLT, Int.reduceLE, Int.reduceNeg, Int.reduceBEq, Int.reduceBNe, Int.reduceEq, Nat.reduceLeDiff, Nat.reduceMul, Nat.reduceLT, natV, intV, putAt, idxOk, flatP, *]
    | simp (singlePass := true) (maxDischargeDepth := 99) only [*, S2, Nat.reduceLT])
        refine ⟨by omega, _, rfl, ?_⟩
        rw [List.take_succ_eq_append_getElem hltD]
        exact hown9
  · rintro g wk nk sk bk ⟨hf, hjD, _⟩
    omega
end
end Go.Proofs.YtgickfllblmhpaaGreatDoor
