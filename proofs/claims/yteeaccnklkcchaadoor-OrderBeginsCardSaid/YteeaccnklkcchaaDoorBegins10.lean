
/- The statement OrderBegins. -/
import Derived.Test.YteeaccnklkcchaaDoorPureB10
import Derived.Test.YteeaccnklkcchaaDoorMade10b
namespace Go.Proofs.YteeaccnklkcchaaDoor
set_option linter.unusedSimpArgs false
set_option linter.unusedVariables false
open Go Go.RowKit
set_option maxRecDepth 100000
set_option linter.unusedSectionVars false
set_option maxHeartbeats 4000000
section
variable {w : World} {B : Nat} {tv : Value} {turn : List Int}
theorem lawOrderBegins {n p kk : Int} (hn0 : 0 ≤ n ∧ n ≤ 255) (hk0 : 0 ≤ kk ∧ kk ≤ 4294967295) (hT : TabW w) (hB : B ≤ w.heap.size) (ht : Sl w B none 1 tv (turn.map u8V)) (hu : ∀ x ∈ turn, 0 ≤ x ∧ x ≤ 255) : Ret Tryd.prog 8 #[.int .u8 n, tv, .int .u64 p, .int .u32 kk] w (.bool true) := by
  have hn : Now w := trivial
  have hx : Ext w w := Ext.refl w
  have hT' := fun w' (h : Ext w w') => hT.ext h
  replace hT' : Hid _ := hT'
  have hbw : Bl B w w := Bl.refl hB
  have KT := ht.k hB
  have hTB := fun w' (h : Bl B w w') => ht.bl h
  replace hTB : Hid _ := hTB
  obtain ⟨kn, rfl⟩ : ∃ kn : Nat, kk = kn := ⟨kk.toNat, by omega⟩
  clear ht
  (refine callsV_of Tryd.func8 rfl KR KR ?_; rw [Tryd.results8])
  (repeat' first
    | ((with_reducible refine at_row ?_); refine row1_a fun _ _ _ _ _ _ _ => ?_)
    | with_reducible first | (first | apply alloc_k | apply row_k); intro _ _ _ _ _ _ | (first | apply fork | apply forkp) <;> intro _ | refine forke (fun _ => ?_) fun _ _ => ?_ | refine tail_k fun _ _ _ => ?_ | refine ext_k fun _ _ _ => ?_ | refine need_a ?_ | refine st_agg KR rfl ON fun _ _ _ _ => ?_ | refine wpd_q_a ?_
    | simp (maxDischargeDepth := 3) only [↓X, ↓Y, ↓Q, S1, ↓reduceIte, Nat.reduceEqDiff, Nat.reduceAdd, Int.reduceLT, Int.reduceLE, Int.reduceNeg, Int.reduceBEq, Int.reduceBNe, Int.reduceEq, Nat.reduceLeDiff, Nat.reduceMul, Nat.reduceLT, *]
    | simp (singlePass := true) (maxDischargeDepth := 99) only [*, S2, Nat.reduceLT])
  refine call_k (law10made hn0 (B := B) FR (hTB.out _ FR) hu) ?_
  rintro v w1 n1 s1 ⟨us, A, hA, hA9, h0⟩
  have hV1 := fun w' (h : Bl w1.heap.size w1 w') => hA.blz h
  replace hV1 : Hid _ := hV1
  have b1 : Bl w1.heap.size w1 w1 := Bl.refl (Nat.le_refl _)
  have one1 := hA.v.one
  have len1 := hA.len_
  have hcp := count_pos h0
  have hcl := wayS_le (ds := (ofS A).2.1) (by rw [(ord_ok h0).2.2.1]; omega) 0
  clear hA hTB hu KT
  (repeat' first
    | ((with_reducible refine at_row ?_); refine row1_a fun _ _ _ _ _ _ _ => ?_)
    | with_reducible first | (first | apply alloc_k | apply row_k); intro _ _ _ _ _ _ | (first | apply fork | apply forkp) <;> intro _ | refine forke (fun _ => ?_) fun _ _ => ?_ | refine tail_k fun _ _ _ => ?_ | refine ext_k fun _ _ _ => ?_ | refine need_a ?_ | refine st_agg KR rfl ON fun _ _ _ _ => ?_ | refine wpd_q_a ?_
    | simp (maxDischargeDepth := 3) only [↓X, ↓Y, ↓Q, S1, ↓reduceIte, Nat.reduceEqDiff, Nat.reduceAdd, Int.reduceLT, Int.reduceLE, Int.reduceNeg, Int.reduceBEq, Int.reduceBNe, Int.reduceEq, Nat.reduceLeDiff, Nat.reduceMul, Nat.reduceLT, *]
    | simp (singlePass := true) (maxDischargeDepth := 99) only [*, S2, Nat.reduceLT])
  have c1 := fun w' (h1 : Ext w w') (h2 : Bl w1.heap.size w1 w') (h3 : w1.heap.size ≤ w'.heap.size) => orderCount (w := w') (B := w1.heap.size) (hT'.out w' h1) h3 (hV1.out w' h2)
  simp only [h0, countE, if_true] at c1
  refine ret_k (c1 _ FR FR FR) fun w2 n2 s2 => ?_
  clear c1
  (repeat' first
    | ((with_reducible refine at_row ?_); refine row1_a fun _ _ _ _ _ _ _ => ?_)
    | with_reducible first | (first | apply alloc_k | apply row_k); intro _ _ _ _ _ _ | (first | apply fork | apply forkp) <;> intro _ | refine forke (fun _ => ?_) fun _ _ => ?_ | refine tail_k fun _ _ _ => ?_ | refine ext_k fun _ _ _ => ?_ | refine need_a ?_ | refine st_agg KR rfl ON fun _ _ _ _ => ?_ | refine wpd_q_a ?_
    | simp (maxDischargeDepth := 3) only [↓X, ↓Y, ↓Q, S1, ↓reduceIte, Nat.reduceEqDiff, Nat.reduceAdd, Int.reduceLT, Int.reduceLE, Int.reduceNeg, Int.reduceBEq, Int.reduceBNe, Int.reduceEq, Nat.reduceLeDiff, Nat.reduceMul, Nat.reduceLT, *]
    | simp (singlePass := true) (maxDischargeDepth := 99) only [*, S2, Nat.reduceLT])
  have c1 := fun w' (h1 : Ext w w') (h2 : Bl w1.heap.size w1 w') (h3 : w1.heap.size ≤ w'.heap.size) => orderIdeals (w := w') (B := w1.heap.size) (hT'.out w' h1) h3 (hV1.out w' h2)
  simp only [h0, if_true] at c1
  refine call_k (c1 _ FR FR FR) ?_
  clear c1
  rintro _ w3 n3 s3 ⟨o3, rfl, ho3⟩
  have one3 := ho3.one
  have hs3 := ho3.sl1 (f := natV)
  have KI := hs3.k (Nat.le_refl _)
  rw [natC_ints] at hs3
  have hL3 := fun w' (h : Bl w3.heap.size w3 w') => hs3.bl h
  replace hL3 : Hid _ := hL3
  have b3 : Bl w3.heap.size w3 w3 := Bl.refl (Nat.le_refl _)
  have hpp := Nat.pow_pos (n := A.length) (show 0 < 2 by decide)
  have hp4 := two_pow_le (show A.length ≤ 12 by omega)
  obtain ⟨r3, hr3, hrne⟩ := idL_head (ds := (ofS A).2.1) hpp
  have hmem3 : ∀ s, s ∈ idL (ofS A).2.1 (2 ^ A.length) ↔ s < 2 ^ A.length ∧ idealD (ofS A).2.1 s = true := fun s => idL_mem
  have hIl := idL_le (ofS A).2.1 (2 ^ A.length)
  have hne3 : ∀ q (hq : q < (idL (ofS A).2.1 (2 ^ A.length)).length), 1 ≤ q → (idL (ofS A).2.1 (2 ^ A.length))[q] ≠ 0 := fun q hq h1 => by
    simp only [hr3] at hq ⊢
    obtain ⟨q', rfl⟩ : ∃ q', q = q' + 1 := ⟨q - 1, by omega⟩
    rw [List.getElem_cons_succ]
    exact hrne _ (List.getElem_mem _)
  have hI0 : (idL (ofS A).2.1 (2 ^ A.length))[0]? = some 0 := by rw [hr3]; rfl
  have hIpos : 0 < (idL (ofS A).2.1 (2 ^ A.length)).length := by rw [hr3]; simp
  have hI00 : (idL (ofS A).2.1 (2 ^ A.length))[0] = 0 := by
    have := List.getElem?_eq_getElem hIpos
    rw [hI0] at this
    exact (Option.some.inj this).symm
  clear ho3 hs3 hr3 hrne hI0
  have hok := ord_ok h0
  generalize hcnt : wayS (ofS A).2.1 0 = cnt at *
  generalize hII : idL (ofS A).2.1 (2 ^ A.length) = I at *
  have hc1 : ¬ ((cnt : Int) < 1) := by omega
  have hc2 : ¬ ((I.length : Int) = 0) := by omega
  have hc3 : ¬ ((cnt : Int) = 0) := by omega
  have hcv : IntKind.i64.wrap (kn : Int) = (kn : Int) := by rw [wrap_i64_id] <;> omega
  have hrem : (kn : Int).tmod (cnt : Int) = ((kn % cnt : Nat) : Int) := rfl
  have hml : kn % cnt < cnt := Nat.mod_lt _ (by omega)
  generalize kn % cnt = q at *
  have i00 : Int.toNat 0 = 0 := rfl
  have hc2b : ((I.length : Int) == 0) = false := by simpa using hc2
  obtain ⟨h12, hS, hdn, hbb, hbl, hnc, hrr, _, hdl, _⟩ := hok
  have hq0 : q < wayS (ofS A).2.1 0 := by rw [hcnt]; exact hml
  have hqI : ¬ ((q : Int) < 0 ∨ (wayS (ofS A).2.1 0 : Int) ≤ (q : Int)) := by omega
  have hqr : -9223372036854775808 ≤ (q : Int) ∧ (q : Int) ≤ 9223372036854775807 := by omega
  (repeat' first
    | ((with_reducible refine at_row ?_); refine row1_a fun _ _ _ _ _ _ _ => ?_)
    | with_reducible first | (first | apply alloc_k | apply row_k); intro _ _ _ _ _ _ | (first | apply fork | apply forkp) <;> intro _ | refine forke (fun _ => ?_) fun _ _ => ?_ | refine tail_k fun _ _ _ => ?_ | refine ext_k fun _ _ _ => ?_ | refine need_a ?_ | refine st_agg KR rfl ON fun _ _ _ _ => ?_ | refine wpd_q_a ?_
    | simp (maxDischargeDepth := 3) only [↓X, ↓Y, ↓Q, S1, ↓reduceIte, Nat.reduceEqDiff, Nat.reduceAdd, Int.reduceLT, Int.reduceLE, Int.reduceNeg, Int.reduceBEq, Int.reduceBNe, Int.reduceEq, Nat.reduceLeDiff, Nat.reduceMul, Nat.reduceLT, *, hcv, hrem]
    | simp (singlePass := true) (maxDischargeDepth := 99) only [*, S2, Nat.reduceLT, hcv, hrem])
  have c1 := fun w' (h1 : Ext w w') (h2 : Bl w1.heap.size w1 w') (h3 : w1.heap.size ≤ w'.heap.size) => orderNth (w := w') (B := w1.heap.size) hqr (hT'.out w' h1) h3 (hV1.out w' h2)
  simp only [h0, nthE, if_true, if_neg hqI, Int.toNat_natCast] at c1
  refine call_k (c1 _ FR FR FR) ?_
  clear c1
  rintro _ w4 n4 s4 ⟨o4, rfl, ho4⟩
  have one4 := ho4.one
  generalize hAll : nthS (ofS A).2.1 (ofS A).2.1.length 0 q = All at *
  have hAl : All.length = A.length := by
    rw [← hAll]
    have : ∀ (f s k : Nat), card s + f = A.length → s < 2 ^ A.length → k < wayS (ofS A).2.1 s → (nthS (ofS A).2.1 f s k).length = f := by
      intro f
      induction f with
      | zero => intro s k _ _ _; rfl
      | succ f ih =>
        intro s k hc hs hk
        obtain ⟨i0, k0, _, hi0, hb0, hk0, _, hc0, hs0, hnx⟩ := nth_step (ds := (ofS A).2.1) (j := card s) (s := s) (k := k) (by omega) (by omega) rfl (by rw [hdn]; exact hs) hk
        rw [hdn] at hnx hs0
        rw [show A.length - card s = f + 1 by omega, show A.length - (card s + 1) = f by omega] at hnx
        rw [hnx, List.length_cons, ih _ _ (by omega) hs0 hk0]
    rw [hdn]
    exact this A.length 0 q (by rw [card_zero]; omega) hpp hq0
  have KL := (ho4.sl1 (f := natV)).k (Nat.le_refl _)
  have hlo4 : lenN o4 = A.length := by
    have := (ho4.sl1 (f := natV)).len
    rw [List.length_map] at this
    omega
  have hnst := fun j s k (hj : j < A.length) (hc : card s = j) (hs : s < 2 ^ A.length) (hk : k < wayS (ofS A).2.1 s) => nth_step (ds := (ofS A).2.1) (j := j) (s := s) (k := k) (by omega) (by omega) hc (by rw [hdn]; exact hs) hk
  simp only [hdn] at hnst
  have I0 : Hid (0 < 2 ^ A.length ∧ card 0 = 0 ∧ idealD (ofS A).2.1 0 = true ∧ q < wayS (ofS A).2.1 0 ∧ nthS (ofS A).2.1 (A.length - 0) 0 q = All.drop 0) := ⟨hpp, card_zero, (by rw [idealD, lst_zero]; rfl), hq0, by rw [Nat.sub_zero, ← hdn, hAll]; rfl⟩
  replace hnst : Hid _ := hnst
  have hide := fun s (hs : s < 2 ^ A.length) (hi : idealD (ofS A).2.1 s = true) => (by rw [isIdealE, if_pos rfl, if_pos (by omega), Int.toNat_natCast, hi] : isIdealE 0 A.length (ofS A).2.1 (s : Int) = (true, 0))
  have hene := fun s (hs : s < 2 ^ A.length) (hi : idealD (ofS A).2.1 s = true) => (by rw [enabE, if_pos rfl, if_pos (by omega), Int.toNat_natCast, hi]; rfl : enabE 0 A.length (ofS A).2.1 (s : Int) = (lst (rdyF s 0 (ofS A).2.1), 0))
  have hor := fun s x (hs : s < 2 ^ A.length) (hi : idealD (ofS A).2.1 s = true) (hx : x ∈ lst (rdyF s 0 (ofS A).2.1)) => ideal_or h0 hs hi hx
  have hmx := fun s (hs : s < 2 ^ A.length) (hi : idealD (ofS A).2.1 s = true) (hne : s ≠ 0) => ideal_max h0 hs hi hne
  have hls := fun s x (hs : s < 2 ^ A.length) (hi : idealD (ofS A).2.1 s = true) (hx : s.testBit x = true) => ideal_less h0 hs hi hx
  have hisd := fun s w' (h1 : Ext w w') (h2 : Bl w1.heap.size w1 w') (h3 : w1.heap.size ≤ w'.heap.size) => orderIsIdeal (w := w') (B := w1.heap.size) (x := (s : Nat)) (hT'.out w' h1) h3 (hV1.out w' h2)
  have hend := fun s w' (h1 : Ext w w') (h2 : Bl w1.heap.size w1 w') (h3 : w1.heap.size ≤ w'.heap.size) => orderEnabled (w := w') (B := w1.heap.size) (x := (s : Nat)) (hT'.out w' h1) h3 (hV1.out w' h2)
  simp only [h0] at hisd hend
  replace hide : Hid _ := hide
  replace hene : Hid _ := hene
  replace hor : Hid _ := hor
  replace hmx : Hid _ := hmx
  replace hls : Hid _ := hls
  replace hisd : Hid _ := hisd
  replace hend : Hid _ := hend
  replace hmem3 : Hid _ := hmem3
  replace hne3 : Hid _ := hne3
  have hn9 : Hid (A.length ≤ 9) := hA9
  have hpp' : Hid (2 ^ A.length ≤ 4096) := hp4
  have hfull : Hid (∀ s, s < 2 ^ A.length → card s = A.length → s = 2 ^ A.length - 1) := fun s h1 h2 => (card_full h1 h12).1 h2
  have hcn0 : Hid (card 0 = 0) := card_zero
  have hmlst : Hid (∀ s x, x ∈ lst (rdyF s 0 (ofS A).2.1) ↔ (rdyF s 0 (ofS A).2.1).testBit x = true) := fun s x => mem_lst' (by have := rdyF_lt s (ofS A).2.1 0; rw [Nat.zero_add, hdn] at this; omega)
  have hpk : Hid (∀ {c : Nat → Nat} {l : List Nat} {k i k' : Nat}, pickN c l k = some (i, k') → i ∈ l) := fun h => pick_memB h
  clear ho4 hAll hcl hcp hq0 hqI h0 hS hbb hbl hnc hrr hdl hdn hI00 hcnt
  (repeat' first
    | ((with_reducible refine at_row ?_); refine row1_a fun _ _ _ _ _ _ _ => ?_)
    | with_reducible first | (first | apply alloc_k | apply row_k); intro _ _ _ _ _ _ | (first | apply fork | apply forkp) <;> intro _ | refine forke (fun _ => ?_) fun _ _ => ?_ | refine tail_k fun _ _ _ => ?_ | refine ext_k fun _ _ _ => ?_ | refine need_a ?_ | refine st_agg KR rfl ON fun _ _ _ _ => ?_ | refine wpd_q_a ?_
    | simp (maxDischargeDepth := 3) only [↓X, ↓Y, ↓Q, S1, ↓reduceIte, Nat.reduceEqDiff, Nat.reduceAdd, Int.reduceLT, Int.reduceLE, Int.reduceNeg, Int.reduceBEq, Int.reduceBNe, Int.reduceEq, Nat.reduceLeDiff, Nat.reduceMul, Nat.reduceLT, *]
    | simp (singlePass := true) (maxDischargeDepth := 99) only [*, S2, Nat.reduceLT])
  refine loop_k A.length (fun g0 k g _ => g 83 = .int .i64 k ∧ (g 9 = g0 9 ∧ g 12 = g0 12 ∧ g 81 = g0 81 ∧ g 82 = g0 82) ∧ ∃ s y : Nat, g 15 = .int .i64 s ∧ Hid (s < 2 ^ A.length ∧ card s = k ∧ idealD (ofS A).2.1 s = true ∧ y < wayS (ofS A).2.1 s ∧ nthS (ofS A).2.1 (A.length - k) s y = All.drop k)) KR (by omega) ?_ ?_ ?_
  · (repeat' first
    | ((with_reducible refine at_row ?_); refine row1_a fun _ _ _ _ _ _ _ => ?_)
    | with_reducible first | (first | apply alloc_k | apply row_k); intro _ _ _ _ _ _ | (first | apply fork | apply forkp) <;> intro _ | refine forke (fun _ => ?_) fun _ _ => ?_ | refine tail_k fun _ _ _ => ?_ | refine ext_k fun _ _ _ => ?_ | refine need_a ?_ | refine st_agg KR rfl ON fun _ _ _ _ => ?_ | refine wpd_q_a ?_
    | simp (maxDischargeDepth := 3) only [↓X, ↓Y, ↓Q, S1, ↓reduceIte, Nat.reduceEqDiff, Nat.reduceAdd, Int.reduceLT, Int.reduceLE, Int.reduceNeg, Int.reduceBEq, Int.reduceBNe, Int.reduceEq, Nat.reduceLeDiff, Nat.reduceMul, Nat.reduceLT, *]
    | simp (singlePass := true) (maxDischargeDepth := 99) only [*, S2, Nat.reduceLT])
    exact ⟨0, q, rfl, I0.out⟩
  · rintro k m g wk hk hlt nk sk bk hw ⟨hi, hf, s, y, h15, hp⟩
    simp (maxDischargeDepth := 3) only [U, ↓reduceIte, Nat.reduceEqDiff, *] at hf
    obtain ⟨hs, hcd, his, hy, hnt⟩ := hp.out
    obtain ⟨i0, k0, hpk0, hi0, hb0, hk0, _, hc0, hs0, hnx⟩ := hnst.out k s y hlt hcd hs hy
    rw [hnt] at hnx
    have hka : k < All.length := by omega
    rw [List.drop_eq_getElem_cons hka] at hnx
    have hxe : All[k] = i0 := (List.cons.inj hnx).1
    have hnx2 := (List.cons.inj hnx).2
    have hmem := hpk.out hpk0
    have hi2 := hor.out s i0 hs his hmem
    have e1 := shlI_nat (k := i0) (by omega)
    have h2i := two_pow_le (k := i0) (by omega)
    have e2 := orI_nat (a := s) (b := 2 ^ i0) (by have := hpp'.out; omega) (by omega)
    have N0 : Hid (s ||| 2 ^ i0 < 2 ^ A.length ∧ card (s ||| 2 ^ i0) = k + 1 ∧ idealD (ofS A).2.1 (s ||| 2 ^ i0) = true ∧ k0 < wayS (ofS A).2.1 (s ||| 2 ^ i0) ∧ nthS (ofS A).2.1 (A.length - (k + 1)) (s ||| 2 ^ i0) k0 = All.drop (k + 1)) := ⟨hs0, hc0, hi2, hk0, hnx2.symm⟩
    have hkI : ((k : Int) < (A.length : Int)) := by omega
    have hms : (I.map fun n : Nat => (n : Int)).contains (s : Int) = true := by
      rw [List.contains_iff_mem]
      exact List.mem_map.2 ⟨s, (hmem3.out s).2 ⟨hs, his⟩, rfl⟩
    have hmx2 : ((lst (rdyF s 0 (ofS A).2.1)).map fun n : Nat => (n : Int)).contains (i0 : Int) = true := by
      rw [List.contains_iff_mem]
      exact List.mem_map.2 ⟨i0, hmem, rfl⟩
    have hie := hide.out s hs his
    have hee := hene.out s hs his
    replace hms : Hid _ := hms
    replace hmx2 : Hid _ := hmx2
    replace hie : Hid _ := hie
    replace hee : Hid _ := hee
    clear hnx hnx2 hnt hp hpk0 hs0 hc0 hi2 hk0 his hy hmem
    (repeat' first
    | ((with_reducible refine at_row ?_); refine row1_a fun _ _ _ _ _ _ _ => ?_)
    | with_reducible first | (first | apply alloc_k | apply row_k); intro _ _ _ _ _ _ | (first | apply fork | apply forkp) <;> intro _ | refine forke (fun _ => ?_) fun _ _ => ?_ | refine tail_k fun _ _ _ => ?_ | refine ext_k fun _ _ _ => ?_ | refine need_a ?_ | refine st_agg KR rfl ON fun _ _ _ _ => ?_ | refine wpd_q_a ?_
    | simp (maxDischargeDepth := 3) only [↓X, ↓Y, ↓Q, S1, ↓reduceIte, Nat.reduceEqDiff, Nat.reduceAdd, Int.reduceLT, Int.reduceLE, Int.reduceNeg, Int.reduceBEq, Int.reduceBNe, Int.reduceEq, Nat.reduceLeDiff, Nat.reduceMul, Nat.reduceLT, *, hxe]
    | simp (singlePass := true) (maxDischargeDepth := 99) only [*, S2, Nat.reduceLT, hxe])
    have c1 := hisd.out s
    simp only [hie.out] at c1
    refine ret_k (c1 _ FR FR FR) fun u1 m1 t1 => ?_
    clear c1
    (repeat' first
    | ((with_reducible refine at_row ?_); refine row1_a fun _ _ _ _ _ _ _ => ?_)
    | with_reducible first | (first | apply alloc_k | apply row_k); intro _ _ _ _ _ _ | (first | apply fork | apply forkp) <;> intro _ | refine forke (fun _ => ?_) fun _ _ => ?_ | refine tail_k fun _ _ _ => ?_ | refine ext_k fun _ _ _ => ?_ | refine need_a ?_ | refine st_agg KR rfl ON fun _ _ _ _ => ?_ | refine wpd_q_a ?_
    | simp (maxDischargeDepth := 3) only [↓X, ↓Y, ↓Q, S1, ↓reduceIte, Nat.reduceEqDiff, Nat.reduceAdd, Int.reduceLT, Int.reduceLE, Int.reduceNeg, Int.reduceBEq, Int.reduceBNe, Int.reduceEq, Nat.reduceLeDiff, Nat.reduceMul, Nat.reduceLT, *, hxe]
    | simp (singlePass := true) (maxDischargeDepth := 99) only [*, S2, Nat.reduceLT, hxe])
    have c1 := hend.out s
    simp only [hee.out] at c1
    refine call_k (c1 _ FR FR FR) ?_
    clear c1
    rintro _ u2 m2 t2 ⟨o5, rfl, ho5⟩
    have one5 := ho5.one
    have hs5 := ho5.sl1 (f := natV)
    rw [natC_ints] at hs5
    have hL5 := fun w' (h : Bl u2.heap.size u2 w') => hs5.bl h
    replace hL5 : Hid _ := hL5
    have b5 : Bl u2.heap.size u2 u2 := Bl.refl (Nat.le_refl _)
    clear ho5 hs5
    (repeat' first
    | ((with_reducible refine at_row ?_); refine row1_a fun _ _ _ _ _ _ _ => ?_)
    | with_reducible first | (first | apply alloc_k | apply row_k); intro _ _ _ _ _ _ | (first | apply fork | apply forkp) <;> intro _ | refine forke (fun _ => ?_) fun _ _ => ?_ | refine tail_k fun _ _ _ => ?_ | refine ext_k fun _ _ _ => ?_ | refine need_a ?_ | refine st_agg KR rfl ON fun _ _ _ _ => ?_ | refine wpd_q_a ?_
    | simp (maxDischargeDepth := 3) only [↓X, ↓Y, ↓Q, S1, ↓reduceIte, Nat.reduceEqDiff, Nat.reduceAdd, Int.reduceLT, Int.reduceLE, Int.reduceNeg, Int.reduceBEq, Int.reduceBNe, Int.reduceEq, Nat.reduceLeDiff, Nat.reduceMul, Nat.reduceLT, *, hxe]
    | simp (singlePass := true) (maxDischargeDepth := 99) only [*, S2, Nat.reduceLT, hxe])
    refine ret_k (slicesContainsI (B := u2.heap.size) FR (hL5.out _ FR)) fun u3 m3 t3 => ?_
    rw [hmx2.out]
    (repeat' first
    | ((with_reducible refine at_row ?_); refine row1_a fun _ _ _ _ _ _ _ => ?_)
    | with_reducible first | (first | apply alloc_k | apply row_k); intro _ _ _ _ _ _ | (first | apply fork | apply forkp) <;> intro _ | refine forke (fun _ => ?_) fun _ _ => ?_ | refine tail_k fun _ _ _ => ?_ | refine ext_k fun _ _ _ => ?_ | refine need_a ?_ | refine st_agg KR rfl ON fun _ _ _ _ => ?_ | refine wpd_q_a ?_
    | simp (maxDischargeDepth := 3) only [↓X, ↓Y, ↓Q, S1, ↓reduceIte, Nat.reduceEqDiff, Nat.reduceAdd, Int.reduceLT, Int.reduceLE, Int.reduceNeg, Int.reduceBEq, Int.reduceBNe, Int.reduceEq, Nat.reduceLeDiff, Nat.reduceMul, Nat.reduceLT, *, hxe]
    | simp (singlePass := true) (maxDischargeDepth := 99) only [*, S2, Nat.reduceLT, hxe])
    refine ret_k (slicesContainsI (B := w3.heap.size) FR (hL3.out _ FR)) fun u4 m4 t4 => ?_
    rw [hms.out]
    (repeat' first
    | ((with_reducible refine at_row ?_); refine row1_a fun _ _ _ _ _ _ _ => ?_)
    | with_reducible first | (first | apply alloc_k | apply row_k); intro _ _ _ _ _ _ | (first | apply fork | apply forkp) <;> intro _ | refine forke (fun _ => ?_) fun _ _ => ?_ | refine tail_k fun _ _ _ => ?_ | refine ext_k fun _ _ _ => ?_ | refine need_a ?_ | refine st_agg KR rfl ON fun _ _ _ _ => ?_ | refine wpd_q_a ?_
    | simp (maxDischargeDepth := 3) only [↓X, ↓Y, ↓Q, S1, ↓reduceIte, Nat.reduceEqDiff, Nat.reduceAdd, Int.reduceLT, Int.reduceLE, Int.reduceNeg, Int.reduceBEq, Int.reduceBNe, Int.reduceEq, Nat.reduceLeDiff, Nat.reduceMul, Nat.reduceLT, *, hxe]
    | simp (singlePass := true) (maxDischargeDepth := 99) only [*, S2, Nat.reduceLT, hxe])
    refine next_k hk hlt ?_ FR
    (repeat' first
    | ((with_reducible refine at_row ?_); refine row1_a fun _ _ _ _ _ _ _ => ?_)
    | with_reducible first | (first | apply alloc_k | apply row_k); intro _ _ _ _ _ _ | (first | apply fork | apply forkp) <;> intro _ | refine forke (fun _ => ?_) fun _ _ => ?_ | refine tail_k fun _ _ _ => ?_ | refine ext_k fun _ _ _ => ?_ | refine need_a ?_ | refine st_agg KR rfl ON fun _ _ _ _ => ?_ | refine wpd_q_a ?_
    | simp (maxDischargeDepth := 3) only [↓X, ↓Y, ↓Q, S1, ↓reduceIte, Nat.reduceEqDiff, Nat.reduceAdd, Int.reduceLT, Int.reduceLE, Int.reduceNeg, Int.reduceBEq, Int.reduceBNe, Int.reduceEq, Nat.reduceLeDiff, Nat.reduceMul, Nat.reduceLT, *]
    | simp (singlePass := true) (maxDischargeDepth := 99) only [*, S2, Nat.reduceLT])
    exact ⟨_, k0, rfl, N0.out⟩
  · rintro g w5 n5 s5 bk ⟨hi, hf, s, y, h15, hp⟩
    simp (maxDischargeDepth := 3) only [U, ↓reduceIte, Nat.reduceEqDiff, *] at hf
    obtain ⟨hs, hcd, _⟩ := hp.out
    have hse := hfull.out s hs hcd
    subst hse
    have hniA : ¬ ((A.length : Int) < (A.length : Int)) := by omega
    have rr5 := Ext.refl w5
    clear hp I0 KL hlo4 hnst
    (repeat' first
    | ((with_reducible refine at_row ?_); refine row1_a fun _ _ _ _ _ _ _ => ?_)
    | with_reducible first | (first | apply alloc_k | apply row_k); intro _ _ _ _ _ _ | (first | apply fork | apply forkp) <;> intro _ | refine forke (fun _ => ?_) fun _ _ => ?_ | refine tail_k fun _ _ _ => ?_ | refine ext_k fun _ _ _ => ?_ | refine need_a ?_ | refine st_agg KR rfl ON fun _ _ _ _ => ?_ | refine wpd_q_a ?_
    | simp (maxDischargeDepth := 3) only [↓X, ↓Y, ↓Q, S1, ↓reduceIte, Nat.reduceEqDiff, Nat.reduceAdd, Int.reduceLT, Int.reduceLE, Int.reduceNeg, Int.reduceBEq, Int.reduceBNe, Int.reduceEq, Nat.reduceLeDiff, Nat.reduceMul, Nat.reduceLT, *]
    | simp (singlePass := true) (maxDischargeDepth := 99) only [*, S2, Nat.reduceLT])
    refine loopX_intro (fun m g' w' => (g' 9 = v ∧ g' 12 = o3 ∧ g' 15 = .int .i64 (2 ^ A.length - 1 : Nat)) ∧ Ext w5 w' ∧ ∃ i : Nat, g' 22 = .int .i64 i ∧ m = I.length - i ∧ 1 ≤ i ∧ i ≤ 5000) (I.length - 1) KR ?_ ?_
    · (repeat' first
    | ((with_reducible refine at_row ?_); refine row1_a fun _ _ _ _ _ _ _ => ?_)
    | with_reducible first | (first | apply alloc_k | apply row_k); intro _ _ _ _ _ _ | (first | apply fork | apply forkp) <;> intro _ | refine forke (fun _ => ?_) fun _ _ => ?_ | refine tail_k fun _ _ _ => ?_ | refine ext_k fun _ _ _ => ?_ | refine need_a ?_ | refine st_agg KR rfl ON fun _ _ _ _ => ?_ | refine wpd_q_a ?_
    | simp (maxDischargeDepth := 3) only [↓X, ↓Y, ↓Q, S1, ↓reduceIte, Nat.reduceEqDiff, Nat.reduceAdd, Int.reduceLT, Int.reduceLE, Int.reduceNeg, Int.reduceBEq, Int.reduceBNe, Int.reduceEq, Nat.reduceLeDiff, Nat.reduceMul, Nat.reduceLT, *]
    | simp (singlePass := true) (maxDischargeDepth := 99) only [*, S2, Nat.reduceLT])
      exact ⟨1, rfl, rfl, Nat.le_refl _, by omega⟩
    · rintro m g' wk ⟨⟨hf1, hf2, hf3⟩, hxk, i, h22, rfl, hi1, hi5⟩
      have nk : Now wk := trivial
      have sk := hxk.st
      have rk := Ext.refl wk
      by_cases hil : i < I.length
      · have hilI : ((i : Int) < (I.length : Int)) := by omega
        obtain ⟨hsb, hsi⟩ := (hmem3.out I[i]).1 (List.getElem_mem hil)
        have hsne := hne3.out i hil hi1
        generalize hie : I[i] = s at *
        have hs4 : s < 4096 := by have := hpp'.out; omega
        have hqd : IntKind.i64.wrap ((I.length : Int).tdiv 20) = ((I.length / 20 : Nat) : Int) := by
          rw [show (I.length : Int).tdiv 20 = ((I.length / 20 : Nat) : Int) from rfl, wrap_i64_id] <;> omega
        have hq1 : IntKind.i64.wrap (1 + ((I.length / 20 : Nat) : Int)) = ((1 + I.length / 20 : Nat) : Int) := by rw [wrap_i64_id] <;> omega
        have hq2 : IntKind.i64.wrap ((i : Int) + ((1 + I.length / 20 : Nat) : Int)) = ((i + (1 + I.length / 20) : Nat) : Int) := by rw [wrap_i64_id] <;> omega
        (repeat' first
    | ((with_reducible refine at_row ?_); refine row1_a fun _ _ _ _ _ _ _ => ?_)
    | with_reducible first | (first | apply alloc_k | apply row_k); intro _ _ _ _ _ _ | (first | apply fork | apply forkp) <;> intro _ | refine forke (fun _ => ?_) fun _ _ => ?_ | refine tail_k fun _ _ _ => ?_ | refine ext_k fun _ _ _ => ?_ | refine need_a ?_ | refine st_agg KR rfl ON fun _ _ _ _ => ?_ | refine wpd_q_a ?_
    | simp (maxDischargeDepth := 3) only [↓X, ↓Y, ↓Q, S1, ↓reduceIte, Nat.reduceEqDiff, Nat.reduceAdd, Int.reduceLT, Int.reduceLE, Int.reduceNeg, Int.reduceBEq, Int.reduceBNe, Int.reduceEq, Nat.reduceLeDiff, Nat.reduceMul, Nat.reduceLT, *, hie]
    | simp (singlePass := true) (maxDischargeDepth := 99) only [*, S2, Nat.reduceLT, hie])
        refine loop_k A.length (fun g0 x g _ => g 138 = .int .i64 x ∧ (g 9 = g0 9 ∧ g 12 = g0 12 ∧ g 15 = g0 15 ∧ g 22 = g0 22 ∧ g 137 = g0 137) ∧ ∃ b, g 23 = .bool b ∧ Hid (b = true ∨ ∀ y, y < x → s.testBit y = true → idealD (ofS A).2.1 (sub s (2 ^ y)) = false)) KR (by omega) ?_ ?_ ?_
        · (repeat' first
    | ((with_reducible refine at_row ?_); refine row1_a fun _ _ _ _ _ _ _ => ?_)
    | with_reducible first | (first | apply alloc_k | apply row_k); intro _ _ _ _ _ _ | (first | apply fork | apply forkp) <;> intro _ | refine forke (fun _ => ?_) fun _ _ => ?_ | refine tail_k fun _ _ _ => ?_ | refine ext_k fun _ _ _ => ?_ | refine need_a ?_ | refine st_agg KR rfl ON fun _ _ _ _ => ?_ | refine wpd_q_a ?_
    | simp (maxDischargeDepth := 3) only [↓X, ↓Y, ↓Q, S1, ↓reduceIte, Nat.reduceEqDiff, Nat.reduceAdd, Int.reduceLT, Int.reduceLE, Int.reduceNeg, Int.reduceBEq, Int.reduceBNe, Int.reduceEq, Nat.reduceLeDiff, Nat.reduceMul, Nat.reduceLT, *]
    | simp (singlePass := true) (maxDischargeDepth := 99) only [*, S2, Nat.reduceLT])
          exact ⟨_, rfl, .inr fun y h => absurd h (Nat.not_lt_zero _)⟩
        · rintro x m2 g2 w2 hk2 hlt2 n2 s2 b2 hw2 ⟨hi2, hf2, b, h23, hp2⟩
          simp (maxDischargeDepth := 3) only [U, ↓reduceIte, Nat.reduceEqDiff, *] at hf2
          have hxI : ((x : Int) < (A.length : Int)) := by omega
          have hn9' := hn9.out
          have e1 := shlI_nat (k := x) (by omega)
          have h2x := two_pow_le (k := x) (by omega)
          have e2 := andNotI_nat (a := s) (b := 2 ^ x) (by omega) (by omega)
          cases hbx : s.testBit x
          · have hsub := sub_none hbx
            rw [hsub] at e2
            have N2 : Hid (b = true ∨ ∀ y, y < x + 1 → s.testBit y = true → idealD (ofS A).2.1 (sub s (2 ^ y)) = false) := by
              rcases hp2.out with h | h
              · exact .inl h
              · refine .inr fun y hy hyb => ?_
                rcases Nat.lt_or_eq_of_le (Nat.le_of_lt_succ hy) with h9 | rfl
                · exact h y h9 hyb
                · rw [hbx] at hyb; cases hyb
            clear hp2 hsub
            (repeat' first
    | ((with_reducible refine at_row ?_); refine row1_a fun _ _ _ _ _ _ _ => ?_)
    | with_reducible first | (first | apply alloc_k | apply row_k); intro _ _ _ _ _ _ | (first | apply fork | apply forkp) <;> intro _ | refine forke (fun _ => ?_) fun _ _ => ?_ | refine tail_k fun _ _ _ => ?_ | refine ext_k fun _ _ _ => ?_ | refine need_a ?_ | refine st_agg KR rfl ON fun _ _ _ _ => ?_ | refine wpd_q_a ?_
    | simp (maxDischargeDepth := 3) only [↓X, ↓Y, ↓Q, S1, ↓reduceIte, Nat.reduceEqDiff, Nat.reduceAdd, Int.reduceLT, Int.reduceLE, Int.reduceNeg, Int.reduceBEq, Int.reduceBNe, Int.reduceEq, Nat.reduceLeDiff, Nat.reduceMul, Nat.reduceLT, *, hie]
    | simp (singlePass := true) (maxDischargeDepth := 99) only [*, S2, Nat.reduceLT, hie])
            refine next_k hk2 hlt2 ?_ FR
            (repeat' first
    | ((with_reducible refine at_row ?_); refine row1_a fun _ _ _ _ _ _ _ => ?_)
    | with_reducible first | (first | apply alloc_k | apply row_k); intro _ _ _ _ _ _ | (first | apply fork | apply forkp) <;> intro _ | refine forke (fun _ => ?_) fun _ _ => ?_ | refine tail_k fun _ _ _ => ?_ | refine ext_k fun _ _ _ => ?_ | refine need_a ?_ | refine st_agg KR rfl ON fun _ _ _ _ => ?_ | refine wpd_q_a ?_
    | simp (maxDischargeDepth := 3) only [↓X, ↓Y, ↓Q, S1, ↓reduceIte, Nat.reduceEqDiff, Nat.reduceAdd, Int.reduceLT, Int.reduceLE, Int.reduceNeg, Int.reduceBEq, Int.reduceBNe, Int.reduceEq, Nat.reduceLeDiff, Nat.reduceMul, Nat.reduceLT, *]
    | simp (singlePass := true) (maxDischargeDepth := 99) only [*, S2, Nat.reduceLT])
            all_goals exact ⟨_, rfl, N2.out⟩
          · have hsne2 := sub_some hbx
            have hneI : ¬ (((sub s (2 ^ x) : Nat) : Int) = (s : Int)) := by omega
            have hneB : (((sub s (2 ^ x) : Nat) : Int) != (s : Int)) = true := by simpa using hneI
            have hsl := subLt (x := x) hsb
            have hlx := hls.out s x hsb hsi hbx
            have hL2 : Hid (b = true ∨ ∀ y, y < x → s.testBit y = true → idealD (ofS A).2.1 (sub s (2 ^ y)) = false) := hp2.out
            clear hp2 hsne2
            generalize hle : sub s (2 ^ x) = less at *
            cases hid : idealD (ofS A).2.1 less
            · have hc : (I.map fun n : Nat => (n : Int)).contains (less : Int) = false := by
                rw [← Bool.not_eq_true, List.contains_iff_mem]
                intro hm
                obtain ⟨z, hz, e⟩ := List.mem_map.1 hm
                obtain rfl : z = less := by omega
                have := ((hmem3.out z).1 hz).2
                rw [hid] at this; cases this
              have N2 : Hid (b = true ∨ ∀ y, y < x + 1 → s.testBit y = true → idealD (ofS A).2.1 (sub s (2 ^ y)) = false) := by
                rcases hL2.out with h | h
                · exact .inl h
                · refine .inr fun y hy hyb => ?_
                  rcases Nat.lt_or_eq_of_le (Nat.le_of_lt_succ hy) with h9 | rfl
                  · exact h y h9 hyb
                  · rw [hle]; exact hid
              replace hc : Hid _ := hc
              clear hlx hL2 hle
              (repeat' first
    | ((with_reducible refine at_row ?_); refine row1_a fun _ _ _ _ _ _ _ => ?_)
    | with_reducible first | (first | apply alloc_k | apply row_k); intro _ _ _ _ _ _ | (first | apply fork | apply forkp) <;> intro _ | refine forke (fun _ => ?_) fun _ _ => ?_ | refine tail_k fun _ _ _ => ?_ | refine ext_k fun _ _ _ => ?_ | refine need_a ?_ | refine st_agg KR rfl ON fun _ _ _ _ => ?_ | refine wpd_q_a ?_
    | simp (maxDischargeDepth := 3) only [↓X, ↓Y, ↓Q, S1, ↓reduceIte, Nat.reduceEqDiff, Nat.reduceAdd, Int.reduceLT, Int.reduceLE, Int.reduceNeg, Int.reduceBEq, Int.reduceBNe, Int.reduceEq, Nat.reduceLeDiff, Nat.reduceMul, Nat.reduceLT, *, hie]
    | simp (singlePass := true) (maxDischargeDepth := 99) only [*, S2, Nat.reduceLT, hie])
              refine ret_k (slicesContainsI (B := w3.heap.size) FR (hL3.out _ FR)) fun u4 m4 t4 => ?_
              rw [hc.out]
              (repeat' first
    | ((with_reducible refine at_row ?_); refine row1_a fun _ _ _ _ _ _ _ => ?_)
    | with_reducible first | (first | apply alloc_k | apply row_k); intro _ _ _ _ _ _ | (first | apply fork | apply forkp) <;> intro _ | refine forke (fun _ => ?_) fun _ _ => ?_ | refine tail_k fun _ _ _ => ?_ | refine ext_k fun _ _ _ => ?_ | refine need_a ?_ | refine st_agg KR rfl ON fun _ _ _ _ => ?_ | refine wpd_q_a ?_
    | simp (maxDischargeDepth := 3) only [↓X, ↓Y, ↓Q, S1, ↓reduceIte, Nat.reduceEqDiff, Nat.reduceAdd, Int.reduceLT, Int.reduceLE, Int.reduceNeg, Int.reduceBEq, Int.reduceBNe, Int.reduceEq, Nat.reduceLeDiff, Nat.reduceMul, Nat.reduceLT, *, hie]
    | simp (singlePass := true) (maxDischargeDepth := 99) only [*, S2, Nat.reduceLT, hie])
              refine next_k hk2 hlt2 ?_ FR
              (repeat' first
    | ((with_reducible refine at_row ?_); refine row1_a fun _ _ _ _ _ _ _ => ?_)
    | with_reducible first | (first | apply alloc_k | apply row_k); intro _ _ _ _ _ _ | (first | apply fork | apply forkp) <;> intro _ | refine forke (fun _ => ?_) fun _ _ => ?_ | refine tail_k fun _ _ _ => ?_ | refine ext_k fun _ _ _ => ?_ | refine need_a ?_ | refine st_agg KR rfl ON fun _ _ _ _ => ?_ | refine wpd_q_a ?_
    | simp (maxDischargeDepth := 3) only [↓X, ↓Y, ↓Q, S1, ↓reduceIte, Nat.reduceEqDiff, Nat.reduceAdd, Int.reduceLT, Int.reduceLE, Int.reduceNeg, Int.reduceBEq, Int.reduceBNe, Int.reduceEq, Nat.reduceLeDiff, Nat.reduceMul, Nat.reduceLT, *]
    | simp (singlePass := true) (maxDischargeDepth := 99) only [*, S2, Nat.reduceLT])
              all_goals exact ⟨_, rfl, N2.out⟩
            · have hc : (I.map fun n : Nat => (n : Int)).contains (less : Int) = true := by
                rw [List.contains_iff_mem]
                exact List.mem_map.2 ⟨less, (hmem3.out less).2 ⟨hsl, hid⟩, rfl⟩
              have hmx2 : ((lst (rdyF less 0 (ofS A).2.1)).map fun n : Nat => (n : Int)).contains (x : Int) = true := by
                rw [List.contains_iff_mem]
                exact List.mem_map.2 ⟨x, hlx, rfl⟩
              have hee := hene.out less hsl hid
              replace hc : Hid _ := hc
              replace hmx2 : Hid _ := hmx2
              replace hee : Hid _ := hee
              clear hlx hL2 hle
              (repeat' first
    | ((with_reducible refine at_row ?_); refine row1_a fun _ _ _ _ _ _ _ => ?_)
    | with_reducible first | (first | apply alloc_k | apply row_k); intro _ _ _ _ _ _ | (first | apply fork | apply forkp) <;> intro _ | refine forke (fun _ => ?_) fun _ _ => ?_ | refine tail_k fun _ _ _ => ?_ | refine ext_k fun _ _ _ => ?_ | refine need_a ?_ | refine st_agg KR rfl ON fun _ _ _ _ => ?_ | refine wpd_q_a ?_
    | simp (maxDischargeDepth := 3) only [↓X, ↓Y, ↓Q, S1, ↓reduceIte, Nat.reduceEqDiff, Nat.reduceAdd, Int.reduceLT, Int.reduceLE, Int.reduceNeg, Int.reduceBEq, Int.reduceBNe, Int.reduceEq, Nat.reduceLeDiff, Nat.reduceMul, Nat.reduceLT, *, hie]
    | simp (singlePass := true) (maxDischargeDepth := 99) only [*, S2, Nat.reduceLT, hie])
              refine ret_k (slicesContainsI (B := w3.heap.size) FR (hL3.out _ FR)) fun u4 m4 t4 => ?_
              rw [hc.out]
              (repeat' first
    | ((with_reducible refine at_row ?_); refine row1_a fun _ _ _ _ _ _ _ => ?_)
    | with_reducible first | (first | apply alloc_k | apply row_k); intro _ _ _ _ _ _ | (first | apply fork | apply forkp) <;> intro _ | refine forke (fun _ => ?_) fun _ _ => ?_ | refine tail_k fun _ _ _ => ?_ | refine ext_k fun _ _ _ => ?_ | refine need_a ?_ | refine st_agg KR rfl ON fun _ _ _ _ => ?_ | refine wpd_q_a ?_
    | simp (maxDischargeDepth := 3) only [↓X, ↓Y, ↓Q, S1, ↓reduceIte, Nat.reduceEqDiff, Nat.reduceAdd, Int.reduceLT, Int.reduceLE, Int.reduceNeg, Int.reduceBEq, Int.reduceBNe, Int.reduceEq, Nat.reduceLeDiff, Nat.reduceMul, Nat.reduceLT, *, hie]
    | simp (singlePass := true) (maxDischargeDepth := 99) only [*, S2, Nat.reduceLT, hie])
              have c1 := hend.out less
              simp only [hee.out] at c1
              refine call_k (c1 _ FR FR FR) ?_
              clear c1
              rintro _ u2 m2' t2 ⟨o5, rfl, ho5⟩
              have one5 := ho5.one
              have hs5 := ho5.sl1 (f := natV)
              rw [natC_ints] at hs5
              have hL5 := fun w' (h : Bl u2.heap.size u2 w') => hs5.bl h
              replace hL5 : Hid _ := hL5
              have b5 : Bl u2.heap.size u2 u2 := Bl.refl (Nat.le_refl _)
              clear ho5 hs5
              (repeat' first
    | ((with_reducible refine at_row ?_); refine row1_a fun _ _ _ _ _ _ _ => ?_)
    | with_reducible first | (first | apply alloc_k | apply row_k); intro _ _ _ _ _ _ | (first | apply fork | apply forkp) <;> intro _ | refine forke (fun _ => ?_) fun _ _ => ?_ | refine tail_k fun _ _ _ => ?_ | refine ext_k fun _ _ _ => ?_ | refine need_a ?_ | refine st_agg KR rfl ON fun _ _ _ _ => ?_ | refine wpd_q_a ?_
    | simp (maxDischargeDepth := 3) only [↓X, ↓Y, ↓Q, S1, ↓reduceIte, Nat.reduceEqDiff, Nat.reduceAdd, Int.reduceLT, Int.reduceLE, Int.reduceNeg, Int.reduceBEq, Int.reduceBNe, Int.reduceEq, Nat.reduceLeDiff, Nat.reduceMul, Nat.reduceLT, *, hie]
    | simp (singlePass := true) (maxDischargeDepth := 99) only [*, S2, Nat.reduceLT, hie])
              refine ret_k (slicesContainsI (B := u2.heap.size) FR (hL5.out _ FR)) fun u3 m3 t3 => ?_
              rw [hmx2.out]
              (repeat' first
    | ((with_reducible refine at_row ?_); refine row1_a fun _ _ _ _ _ _ _ => ?_)
    | with_reducible first | (first | apply alloc_k | apply row_k); intro _ _ _ _ _ _ | (first | apply fork | apply forkp) <;> intro _ | refine forke (fun _ => ?_) fun _ _ => ?_ | refine tail_k fun _ _ _ => ?_ | refine ext_k fun _ _ _ => ?_ | refine need_a ?_ | refine st_agg KR rfl ON fun _ _ _ _ => ?_ | refine wpd_q_a ?_
    | simp (maxDischargeDepth := 3) only [↓X, ↓Y, ↓Q, S1, ↓reduceIte, Nat.reduceEqDiff, Nat.reduceAdd, Int.reduceLT, Int.reduceLE, Int.reduceNeg, Int.reduceBEq, Int.reduceBNe, Int.reduceEq, Nat.reduceLeDiff, Nat.reduceMul, Nat.reduceLT, *, hie]
    | simp (singlePass := true) (maxDischargeDepth := 99) only [*, S2, Nat.reduceLT, hie])
              refine next_k hk2 hlt2 ?_ FR
              (repeat' first
    | ((with_reducible refine at_row ?_); refine row1_a fun _ _ _ _ _ _ _ => ?_)
    | with_reducible first | (first | apply alloc_k | apply row_k); intro _ _ _ _ _ _ | (first | apply fork | apply forkp) <;> intro _ | refine forke (fun _ => ?_) fun _ _ => ?_ | refine tail_k fun _ _ _ => ?_ | refine ext_k fun _ _ _ => ?_ | refine need_a ?_ | refine st_agg KR rfl ON fun _ _ _ _ => ?_ | refine wpd_q_a ?_
    | simp (maxDischargeDepth := 3) only [↓X, ↓Y, ↓Q, S1, ↓reduceIte, Nat.reduceEqDiff, Nat.reduceAdd, Int.reduceLT, Int.reduceLE, Int.reduceNeg, Int.reduceBEq, Int.reduceBNe, Int.reduceEq, Nat.reduceLeDiff, Nat.reduceMul, Nat.reduceLT, *]
    | simp (singlePass := true) (maxDischargeDepth := 99) only [*, S2, Nat.reduceLT])
              all_goals exact ⟨_, rfl, .inl rfl⟩
        · rintro g2 w2 n2 s2 b2 ⟨hi2, hf2, b, h23, hp2⟩
          simp (maxDischargeDepth := 3) only [U, ↓reduceIte, Nat.reduceEqDiff, *] at hf2
          obtain rfl : b = true := by
            rcases hp2.out with h | h
            · exact h
            · obtain ⟨x, h1, h2, h3⟩ := hmx.out s hsb hsi hsne
              rw [h x h1 h2] at h3; cases h3
          clear hp2
          (repeat' first
    | ((with_reducible refine at_row ?_); refine row1_a fun _ _ _ _ _ _ _ => ?_)
    | with_reducible first | (first | apply alloc_k | apply row_k); intro _ _ _ _ _ _ | (first | apply fork | apply forkp) <;> intro _ | refine forke (fun _ => ?_) fun _ _ => ?_ | refine tail_k fun _ _ _ => ?_ | refine ext_k fun _ _ _ => ?_ | refine need_a ?_ | refine st_agg KR rfl ON fun _ _ _ _ => ?_ | refine wpd_q_a ?_
    | simp (maxDischargeDepth := 3) only [↓X, ↓Y, ↓Q, S1, ↓reduceIte, Nat.reduceEqDiff, Nat.reduceAdd, Int.reduceLT, Int.reduceLE, Int.reduceNeg, Int.reduceBEq, Int.reduceBNe, Int.reduceEq, Nat.reduceLeDiff, Nat.reduceMul, Nat.reduceLT, *, hqd, hq1, hq2]
    | simp (singlePass := true) (maxDischargeDepth := 99) only [*, S2, Nat.reduceLT, hqd, hq1, hq2])
          exact ⟨I.length - (i + (1 + I.length / 20)), by omega, _, rfl, rfl, by omega, by omega⟩
      · have hilI : ¬ ((i : Int) < (I.length : Int)) := by omega
        have hn9' := hn9.out
        have hpp9 := hpp'.out
        have e1 := shlI_nat (k := A.length) (by omega)
        have hpos := Nat.pow_pos (n := A.length) (show 0 < 2 by decide)
        have hw1 : IntKind.i64.wrap (((2 ^ A.length : Nat) : Int) - 1) = ((2 ^ A.length - 1 : Nat) : Int) := by
          rw [show ((2 ^ A.length : Nat) : Int) - 1 = ((2 ^ A.length - 1 : Nat) : Int) by omega, wrap_nat (by omega)]
        (repeat' first
    | ((with_reducible refine at_row ?_); refine row1_a fun _ _ _ _ _ _ _ => ?_)
    | with_reducible first | (first | apply alloc_k | apply row_k); intro _ _ _ _ _ _ | (first | apply fork | apply forkp) <;> intro _ | refine forke (fun _ => ?_) fun _ _ => ?_ | refine tail_k fun _ _ _ => ?_ | refine ext_k fun _ _ _ => ?_ | refine need_a ?_ | refine st_agg KR rfl ON fun _ _ _ _ => ?_ | refine wpd_q_a ?_
    | simp (maxDischargeDepth := 3) only [↓X, ↓Y, ↓Q, S1, ↓reduceIte, Nat.reduceEqDiff, Nat.reduceAdd, Int.reduceLT, Int.reduceLE, Int.reduceNeg, Int.reduceBEq, Int.reduceBNe, Int.reduceEq, Nat.reduceLeDiff, Nat.reduceMul, Nat.reduceLT, *, hw1]
    | simp (singlePass := true) (maxDischargeDepth := 99) only [*, S2, Nat.reduceLT, hw1])
        refine ret_k (law10works (hT'.out _ FR)) fun u4 m4 t4 => ?_
        (repeat' first
    | ((with_reducible refine at_row ?_); refine row1_a fun _ _ _ _ _ _ _ => ?_)
    | with_reducible first | (first | apply alloc_k | apply row_k); intro _ _ _ _ _ _ | (first | apply fork | apply forkp) <;> intro _ | refine forke (fun _ => ?_) fun _ _ => ?_ | refine tail_k fun _ _ _ => ?_ | refine ext_k fun _ _ _ => ?_ | refine need_a ?_ | refine st_agg KR rfl ON fun _ _ _ _ => ?_ | refine wpd_q_a ?_
    | simp (maxDischargeDepth := 3) only [↓X, ↓Y, ↓Q, S1, ↓reduceIte, Nat.reduceEqDiff, Nat.reduceAdd, Int.reduceLT, Int.reduceLE, Int.reduceNeg, Int.reduceBEq, Int.reduceBNe, Int.reduceEq, Nat.reduceLeDiff, Nat.reduceMul, Nat.reduceLT, *]
    | simp (singlePass := true) (maxDischargeDepth := 99) only [*, S2, Nat.reduceLT])
        all_goals done
end
end Go.Proofs.YteeaccnklkcchaaDoor
