
/- The layer order: the matching that next makes greater (its inner function calls itself). -/
import Derived.Test.YteeaccnklkcchaaDoorCopy10
namespace Go.Proofs.YteeaccnklkcchaaDoor
set_option linter.unusedSimpArgs false
set_option linter.unusedVariables false
open Go Go.RowKit
set_option maxRecDepth 100000
set_option linter.unusedSectionVars false
set_option maxHeartbeats 2000000
abbrev tJoin : TypeId := 68
def joinV (bp bs bq bj bn : Nat) : Value := .func (.func 70) #[] #[.pointer (some ⟨bp, 0, none⟩), .pointer (some ⟨bs, 0, none⟩), .pointer (some ⟨bq, 0, none⟩), .pointer (some ⟨bj, 0, none⟩), .pointer (some ⟨bn, 0, none⟩)]
/-- Of what was there, only three blocks may have turned. -/
structure Tn (bs rq rn : Nat) (w w' : World) : Prop where
  os : w'.os = w.os
  tape : w'.tape = w.tape
  output : w'.output = w.output
  size : w.heap.size ≤ w'.heap.size
  block : ∀ c, c < w.heap.size → ¬ c = bs → ¬ c = rq → ¬ c = rn → w'.heap[c]? = w.heap[c]?
/-- What the matching has about it. -/
structure NxB (B bp bs bq bj bn rq rn n : Nat) (vd va : Value) (al : List Nat) (st : NSt) (w : World) : Prop where
  hB : B ≤ w.heap.size
  kp : Blk w bp 64 [natV n, vd, va]
  ks : Blk w bs 3 [natV st.seen]
  kq : Blk w bq 25 [.slice (some ⟨rq, 0, none⟩) n n]
  kj : Blk w bj tJoin [joinV bp bs bq bj bn]
  kn : Blk w bn 25 [.slice (some ⟨rn, 0, none⟩) n n]
  hq : Blk w rq 3 (st.pv.map intV)
  hn : Blk w rn 3 (st.nx.map intV)
  ha : Sl w B none 1 va (al.map natV)
  l1 : st.pv.length = n
  l2 : st.nx.length = n
  b1 : B ≤ bs
  b2 : B ≤ rq
  b3 : B ≤ rn
  hs : st.seen < 4096
  hr : ∀ x, x < n → -1 ≤ st.pv.getD x 0 ∧ st.pv.getD x 0 < n
  hx : ∀ x, x < n → -1 ≤ st.nx.getD x 0 ∧ st.nx.getD x 0 < n
section
variable {bs rq rn : Nat}
theorem Tn.refl (w : World) : Tn bs rq rn w w := ⟨rfl, rfl, rfl, Nat.le_refl _, fun _ _ _ _ _ => rfl⟩
theorem Tn.trans {a b c : World} (h : Tn bs rq rn a b) (k : Tn bs rq rn b c) : Tn bs rq rn a c := ⟨k.os.trans h.os, k.tape.trans h.tape, k.output.trans h.output, Nat.le_trans h.size k.size, fun x hx h1 h2 h3 => (k.block x (Nat.lt_of_lt_of_le hx h.size) h1 h2 h3).trans (h.block x hx h1 h2 h3)⟩
theorem Tn.of {a b : World} (h : Ext a b) : Tn bs rq rn a b := ⟨h.os, h.tape, h.output, h.size, fun x hx _ _ _ => h.block x hx⟩
theorem Tn.chg {a b : World} {c : Nat} (h : Chg a b c) (hc : c = bs ∨ c = rq ∨ c = rn) : Tn bs rq rn a b := ⟨h.os, h.tape, h.output, h.size, fun x hx h1 h2 h3 => h.block x hx (fun e => by subst e; rcases hc with rfl | rfl | rfl; exact h1 rfl; exact h2 rfl; exact h3 rfl)⟩
end
section
variable {w w' : World} {B bp bs bq bj bn rq rn n : Nat} {vd va : Value} {al : List Nat} {st : NSt}
theorem NxB.ext (h : NxB B bp bs bq bj bn rq rn n vd va al st w) (hx : Ext w w') : NxB B bp bs bq bj bn rq rn n vd va al st w' :=
  ⟨Nat.le_trans h.hB hx.size, h.kp.ext hx, h.ks.ext hx, h.kq.ext hx, h.kj.ext hx, h.kn.ext hx, h.hq.ext hx, h.hn.ext hx, h.ha.bl ((Bl.refl h.hB).ext hx), h.l1, h.l2, h.b1, h.b2, h.b3, h.hs, h.hr, h.hx⟩
theorem blk_ne {b b' T T' : Nat} {cs cs' : List Value} (h : Blk w b T cs) (h' : Blk w b' T' cs') (hT : T ≠ T') : ¬ b = b' := by
  rintro rfl
  have e := Option.some.inj (h.symm.trans h')
  simp only [Obj.cells.injEq] at e
  exact hT e.2.1
variable (d1 : ¬ bs = rq) (d2 : ¬ bs = rn) (d3 : ¬ rq = rn)
include d1 d2 d3
theorem NxB.seen {s : Nat} (h : NxB B bp bs bq bj bn rq rn n vd va al st w) (hc : Chg w w' bs) (hb : Blk w' bs 3 [natV s]) (hs : s < 4096) : NxB B bp bs bq bj bn rq rn n vd va al ⟨s, st.nx, st.pv⟩ w' :=
  ⟨Nat.le_trans h.hB hc.size, hc.blk h.kp (blk_ne h.kp h.ks (by decide)), hb, hc.blk h.kq (blk_ne h.kq h.ks (by decide)), hc.blk h.kj (blk_ne h.kj h.ks (by decide)), hc.blk h.kn (blk_ne h.kn h.ks (by decide)), hc.blk h.hq (fun e => d1 e.symm), hc.blk h.hn (fun e => d2 e.symm), h.ha.bl ((Bl.refl h.hB).chg hc h.b1), h.l1, h.l2, h.b1, h.b2, h.b3, hs, h.hr, h.hx⟩
theorem NxB.next {nx : List Int} (h : NxB B bp bs bq bj bn rq rn n vd va al st w) (hc : Chg w w' rn) (hb : Blk w' rn 3 (nx.map intV)) (hl : nx.length = n) (hx : ∀ x, x < n → -1 ≤ nx.getD x 0 ∧ nx.getD x 0 < n) : NxB B bp bs bq bj bn rq rn n vd va al ⟨st.seen, nx, st.pv⟩ w' :=
  ⟨Nat.le_trans h.hB hc.size, hc.blk h.kp (blk_ne h.kp h.hn (by decide)), hc.blk h.ks d2, hc.blk h.kq (blk_ne h.kq h.hn (by decide)), hc.blk h.kj (blk_ne h.kj h.hn (by decide)), hc.blk h.kn (blk_ne h.kn h.hn (by decide)), hc.blk h.hq d3, hb, h.ha.bl ((Bl.refl h.hB).chg hc h.b3), h.l1, hl, h.b1, h.b2, h.b3, h.hs, h.hr, hx⟩
theorem NxB.prev {pv : List Int} (h : NxB B bp bs bq bj bn rq rn n vd va al st w) (hc : Chg w w' rq) (hb : Blk w' rq 3 (pv.map intV)) (hl : pv.length = n) (hr : ∀ x, x < n → -1 ≤ pv.getD x 0 ∧ pv.getD x 0 < n) : NxB B bp bs bq bj bn rq rn n vd va al ⟨st.seen, st.nx, pv⟩ w' :=
  ⟨Nat.le_trans h.hB hc.size, hc.blk h.kp (blk_ne h.kp h.hq (by decide)), hc.blk h.ks d1, hc.blk h.kq (blk_ne h.kq h.hq (by decide)), hc.blk h.kj (blk_ne h.kj h.hq (by decide)), hc.blk h.kn (blk_ne h.kn h.hq (by decide)), hb, hc.blk h.hn (fun e => d3 e.symm), h.ha.bl ((Bl.refl h.hB).chg hc h.b2), hl, h.l2, h.b1, h.b2, h.b3, h.hs, hr, h.hx⟩
/-- What join hands back. -/
def JoinP (B bp bs bq bj bn rq rn n : Nat) (vd va : Value) (al : List Nat) (w : World) (o : Option (Bool × NSt)) (v : Value) (w' : World) : Prop := Tn bs rq rn w w' ∧ ∃ r s2, o = some (r, s2) ∧ v = .bool r ∧ NxB B bp bs bq bj bn rq rn n vd va al s2 w'
theorem joinStep (h12 : n ≤ 12) (hal : al.length = n) (hal4 : ∀ x, al.getD x 0 < 4096) (f : Nat) {i : Nat} (ih : ∀ {w : World} {st : NSt} {i : Nat}, NxB B bp bs bq bj bn rq rn n vd va al st w → i < n → (joinN al n f i st).isSome → CallsV Tryd.prog 70 #[natV i, .pointer (some ⟨bp, 0, none⟩), .pointer (some ⟨bs, 0, none⟩), .pointer (some ⟨bq, 0, none⟩), .pointer (some ⟨bj, 0, none⟩), .pointer (some ⟨bn, 0, none⟩)] w (JoinP B bp bs bq bj bn rq rn n vd va al w (joinN al n f i st)))
    (hN : NxB B bp bs bq bj bn rq rn n vd va al st w) (hi0 : i < n) (hs0 : (joinN al n (f + 1) i st).isSome) : CallsV Tryd.prog 70 #[natV i, .pointer (some ⟨bp, 0, none⟩), .pointer (some ⟨bs, 0, none⟩), .pointer (some ⟨bq, 0, none⟩), .pointer (some ⟨bj, 0, none⟩), .pointer (some ⟨bn, 0, none⟩)] w (JoinP B bp bs bq bj bn rq rn n vd va al w (joinN al n (f + 1) i st)) := by
  have hn : Now w := trivial
  have hx : Ext w w := Ext.refl w
  have kp := hN.kp.bk
  have hcal : callable Tryd.prog 70 = true := by kernel_rfl
  simp only [joinN] at hs0 ⊢
  generalize hO : joinL al i (joinN al n f) (List.range n) st = O at *
  obtain ⟨r, s2, rfl⟩ : ∃ r s2, O = some (r, s2) := by cases O with
    | none => cases hs0
    | some x => exact ⟨x.1, x.2, rfl⟩
  have I0 : Hid (Tn bs rq rn w w ∧ ∃ st', NxB B bp bs bq bj bn rq rn n vd va al st' w ∧ joinL al i (joinN al n f) ((List.range n).drop 0) st' = some (r, s2)) := ⟨Tn.refl _, st, hN, hO⟩
  have hih : Hid (∀ {w : World} {st : NSt} {i : Nat}, NxB B bp bs bq bj bn rq rn n vd va al st w → i < n → (joinN al n f i st).isSome → CallsV Tryd.prog 70 #[natV i, .pointer (some ⟨bp, 0, none⟩), .pointer (some ⟨bs, 0, none⟩), .pointer (some ⟨bq, 0, none⟩), .pointer (some ⟨bj, 0, none⟩), .pointer (some ⟨bn, 0, none⟩)] w (JoinP B bp bs bq bj bn rq rn n vd va al w (joinN al n f i st))) := ih
  replace hal4 : Hid _ := hal4
  clear hs0 ih hN hO
  (refine callsV_of Tryd.func70 rfl KR KR ?_; rw [Tryd.results70])
  (repeat' first
    | ((with_reducible refine at_row ?_); refine row1_a fun _ _ _ _ _ _ _ => ?_)
    | with_reducible first | (first | apply alloc_k | apply row_k); intro _ _ _ _ _ _ | (first | apply fork | apply forkp) <;> intro _ | refine forke (fun _ => ?_) fun _ _ => ?_ | refine tail_k fun _ _ _ => ?_ | refine ext_k fun _ _ _ => ?_ | refine need_a ?_ | refine st_agg KR rfl ON fun _ _ _ _ => ?_ | refine wpd_q_a ?_
    | simp (maxDischargeDepth := 3) only [↓X, ↓Y, ↓Q, S1, ↓reduceIte, Nat.reduceEqDiff, Nat.reduceAdd, Int.reduceLT, Int.reduceLE, Int.reduceNeg, Int.reduceBEq, Int.reduceBNe, Int.reduceEq, Nat.reduceLeDiff, Nat.reduceMul, Nat.reduceLT, *]
    | simp (singlePass := true) (maxDischargeDepth := 99) only [*, S2, Nat.reduceLT])
  clear kp
  refine loop_g n (fun g0 k g w' => g 11 = .int .i64 (k : Int) ∧ (g 0 = g0 0 ∧ g 1 = g0 1 ∧ g 2 = g0 2 ∧ g 3 = g0 3 ∧ g 4 = g0 4 ∧ g 5 = g0 5 ∧ g 10 = g0 10) ∧ Hid (Tn bs rq rn w w' ∧ ∃ st', NxB B bp bs bq bj bn rq rn n vd va al st' w' ∧ joinL al i (joinN al n f) ((List.range n).drop k) st' = some (r, s2))) KR ?_ ?_ ?_
  · (repeat' first
    | ((with_reducible refine at_row ?_); refine row1_a fun _ _ _ _ _ _ _ => ?_)
    | with_reducible first | (first | apply alloc_k | apply row_k); intro _ _ _ _ _ _ | (first | apply fork | apply forkp) <;> intro _ | refine forke (fun _ => ?_) fun _ _ => ?_ | refine tail_k fun _ _ _ => ?_ | refine ext_k fun _ _ _ => ?_ | refine need_a ?_ | refine st_agg KR rfl ON fun _ _ _ _ => ?_ | refine wpd_q_a ?_
    | simp (maxDischargeDepth := 3) only [↓X, ↓Y, ↓Q, S1, ↓reduceIte, Nat.reduceEqDiff, Nat.reduceAdd, Int.reduceLT, Int.reduceLE, Int.reduceNeg, Int.reduceBEq, Int.reduceBNe, Int.reduceEq, Nat.reduceLeDiff, Nat.reduceMul, Nat.reduceLT, *]
    | simp (singlePass := true) (maxDischargeDepth := 99) only [*, S2, Nat.reduceLT])
  · rintro k m g wk hk hlt nk ⟨hi, hf, hp⟩
    simp (maxDischargeDepth := 3) only [U, ↓reduceIte, Nat.reduceEqDiff, *] at hf
    obtain ⟨hT, st', hN, hJ⟩ := hp.out
    rw [List.drop_eq_getElem_cons (by rw [List.length_range]; exact hlt), List.getElem_range, joinL] at hJ
    have kp := hN.kp.bk
    have ks := hN.ks.bk
    have kq := hN.kq.bk
    have kj := hN.kj.bk
    have kn := hN.kn.bk
    have krq := hN.hq.bk
    have krn := hN.hn.bk
    have KA := hN.ha.k hN.hB
    have hBk := hN.hB
    have hka : k < al.length := by omega
    have hga : al[k] = al.getD k 0 := getN hka
    have ha4 := hal4.out k
    have hs4 := hN.hs
    have e1 : (andI .i64 (shrI .i64 ((al.getD k 0 : Nat) : Int) (i : Int)) 1 == 0) = !(al.getD k 0).testBit i := bit_eq0 (by omega) (by omega)
    have e2 := bit_eq1 (a := st'.seen) (k := k) (by omega) (by omega)
    have e3 := shlI_nat (k := k) (by omega)
    have e4 := orI_nat (a := st'.seen) (b := 2 ^ k) (by omega) (by have := two_pow_le (k := k) (by omega); omega)
    have hs5 : st'.seen ||| 2 ^ k < 4096 := Nat.or_lt_two_pow (n := 12) hs4 (Nat.pow_lt_pow_right (by decide) (by omega))
    have hw : IntKind.i64.wrap ((k : Int) + 1) = ((k + 1 : Nat) : Int) := by rw [wrap_i64_id] <;> omega
    have rk := Ext.refl wk
    replace hp : Hid _ := hp
    cases c1 : (al.getD k 0).testBit i
    · rw [c1] at e1
      rw [if_pos (.inl c1)] at hJ
      (repeat' first
    | ((with_reducible refine at_row ?_); refine row1_a fun _ _ _ _ _ _ _ => ?_)
    | with_reducible first | (first | apply alloc_k | apply row_k); intro _ _ _ _ _ _ | (first | apply fork | apply forkp) <;> intro _ | refine forke (fun _ => ?_) fun _ _ => ?_ | refine tail_k fun _ _ _ => ?_ | refine ext_k fun _ _ _ => ?_ | refine need_a ?_ | refine st_agg KR rfl ON fun _ _ _ _ => ?_ | refine wpd_q_a ?_
    | simp (maxDischargeDepth := 3) only [↓X, ↓Y, ↓Q, S1, ↓reduceIte, Nat.reduceEqDiff, Nat.reduceAdd, Int.reduceLT, Int.reduceLE, Int.reduceNeg, Int.reduceBEq, Int.reduceBNe, Int.reduceEq, Nat.reduceLeDiff, Nat.reduceMul, Nat.reduceLT, *, hga]
    | simp (singlePass := true) (maxDischargeDepth := 99) only [*, S2, Nat.reduceLT, hga])
      refine next_g hk hlt ?_
      (repeat' first
    | ((with_reducible refine at_row ?_); refine row1_a fun _ _ _ _ _ _ _ => ?_)
    | with_reducible first | (first | apply alloc_k | apply row_k); intro _ _ _ _ _ _ | (first | apply fork | apply forkp) <;> intro _ | refine forke (fun _ => ?_) fun _ _ => ?_ | refine tail_k fun _ _ _ => ?_ | refine ext_k fun _ _ _ => ?_ | refine need_a ?_ | refine st_agg KR rfl ON fun _ _ _ _ => ?_ | refine wpd_q_a ?_
    | simp (maxDischargeDepth := 3) only [↓X, ↓Y, ↓Q, S1, ↓reduceIte, Nat.reduceEqDiff, Nat.reduceAdd, Int.reduceLT, Int.reduceLE, Int.reduceNeg, Int.reduceBEq, Int.reduceBNe, Int.reduceEq, Nat.reduceLeDiff, Nat.reduceMul, Nat.reduceLT, *]
    | simp (singlePass := true) (maxDischargeDepth := 99) only [*, S2, Nat.reduceLT])
      exact ⟨st', hN, hJ⟩
    · rw [c1] at e1
      cases c2 : st'.seen.testBit k
      · rw [if_neg (by rw [c1, c2]; simp)] at hJ
        have ck : Cg bs wk wk := Chg.refl' wk bs
        (repeat' first
    | ((with_reducible refine wpd_at 5 ?_); refine wpd_tail 4 KR KR KR ?_)
    | ((with_reducible refine at_row ?_); refine row1_a fun _ _ _ _ _ _ _ => ?_)
    | with_reducible first | (first | apply alloc_k | apply row_k); intro _ _ _ _ _ _ | (first | apply fork | apply forkp) <;> intro _ | refine forke (fun _ => ?_) fun _ _ => ?_ | refine tail_k fun _ _ _ => ?_ | refine ext_k fun _ _ _ => ?_ | refine need_a ?_ | refine st_agg KR rfl ON fun _ _ _ _ => ?_ | refine wpd_q_a ?_
    | simp (maxDischargeDepth := 3) only [↓X, ↓Y, ↓Q, S1, ↓reduceIte, Nat.reduceEqDiff, Nat.reduceAdd, Int.reduceLT, Int.reduceLE, Int.reduceNeg, Int.reduceBEq, Int.reduceBNe, Int.reduceEq, Nat.reduceLeDiff, Nat.reduceMul, Nat.reduceLT, *, hga, c2]
    | simp (singlePass := true) (maxDischargeDepth := 99) only [*, S2, Nat.reduceLT, hga, c2])
        refine st_one KR Nat.one_pos rfl fun w5 n5 k5 s5 => ?_
        have hc5 : Cg bs wk w5 := FR
        have hN5 := hN.seen d1 d2 d3 hc5 (k5.2.1 _ k5.2.2.1) hs5
        have hT5 := hT.trans (Tn.chg hc5 (.inl rfl))
        clear kp ks kq kj kn krq krn KA ck hc5 hN hT k5 s5 hp
        have kq := hN5.kq.bk
        have kj := hN5.kj.bk
        have krq := hN5.hq.bk
        have hkl : k < st'.pv.length := by have := hN5.l1; simp only at this; omega
        have hpk : (st'.pv.map intV)[k]? = some (.int .i64 (st'.pv.getD k 0)) := by
          rw [List.getElem?_map, List.getD_eq_getElem?_getD, List.getElem?_eq_getElem hkl]; rfl
        have hpr := hN5.hr k hlt
        simp only at hpr
        have rk5 := Ext.refl w5
        by_cases hneg : st'.pv.getD k 0 < 0
        · rw [if_pos hneg] at hJ
          obtain ⟨rfl, rfl⟩ := Prod.mk.inj (Option.some.inj hJ)
          (repeat' first
    | ((with_reducible refine wpd_at 7 ?_); refine wpd_hold ?_)
    | ((with_reducible refine wpd_at 6 ?_); refine wpd_mid (m := 11) KR KR KR rfl ?_)
    | ((with_reducible refine at_row ?_); refine row1_a fun _ _ _ _ _ _ _ => ?_)
    | with_reducible first | (first | apply alloc_k | apply row_k); intro _ _ _ _ _ _ | (first | apply fork | apply forkp) <;> intro _ | refine forke (fun _ => ?_) fun _ _ => ?_ | refine tail_k fun _ _ _ => ?_ | refine ext_k fun _ _ _ => ?_ | refine need_a ?_ | refine st_agg KR rfl ON fun _ _ _ _ => ?_ | refine wpd_q_a ?_
    | simp (maxDischargeDepth := 3) only [↓X, ↓Y, ↓Q, S1, ↓reduceIte, Nat.reduceEqDiff, Nat.reduceAdd, Int.reduceLT, Int.reduceLE, Int.reduceNeg, Int.reduceBEq, Int.reduceBNe, Int.reduceEq, Nat.reduceLeDiff, Nat.reduceMul, Nat.reduceLT, *, hpk]
    | simp (singlePass := true) (maxDischargeDepth := 99) only [*, S2, Nat.reduceLT, hpk])
          rename_i w6 n6 s6
          have h56 : Ext w5 w6 := FR
          have hN6 := hN5.ext h56
          have hT6 := hT5.trans (Tn.of h56)
          clear kq kj krq hN5 hT5 hJ s6
          have nb := blk_ne hN6.kn hN6.hn (by decide)
          have nb2 := blk_ne hN6.kq hN6.hn (by decide)
          have nb3 := hN6.hn
          have kn := hN6.kn.bk
          have kq := hN6.kq.bk
          have krq := hN6.hq.bk
          have hl1 := hN6.l1
          have hl2 := hN6.l2
          have rX := Ext.refl w6
          unfold wpdH
          refine wpd_relI 7 9 (fun q w' => Cg rn w6 w' ∧ (q = false → Blk w' rn 3 (st'.nx.map intV)) ∧ (q = true → Blk w' rn 3 ((st'.nx.set i (k : Nat)).map intV))) (by decide) (fun w h => ⟨(Chg.refl' w6 rn).trans_ext h, fun _ => nb3.ext h, fun e => (by cases e)⟩) (fun q a c h hx => ⟨h.1.trans_ext hx, fun e => (h.2.1 e).ext hx, fun e => (h.2.2 e).ext hx⟩) (fun iI v w9 => match iI with
            | 0 => v = .slice (some ⟨rn, 0, none⟩) n n
            | 1 => v = .int .i64 i
            | 2 => v = .slice (some ⟨rq, 0, none⟩) n n
            | 3 => v = .int .i64 k
            | 4 => v = .int .i64 k
            | 5 => v = .int .i64 i
            | 6 => v = .pointer (some ⟨rn, i, none⟩)
            | 7 => True
            | 8 => v = .pointer (some ⟨rq, k, none⟩)
            | _ => False) KR KR KR ?_ ?_ ?_
          · intro iI v w1 w2 hR hx9
            match iI, hR with
            | 0, h => exact h
            | 1, h => exact h
            | 2, h => exact h
            | 3, h => exact h
            | 4, h => exact h
            | 5, h => exact h
            | 6, h => exact h
            | 7, h => exact h
            | 8, h => exact h
          · intro iI oO hi ho qI gF w9 hx9 hq hdep hag
            have s9 := hx9.1.sc
            have n9 : Now w9 := trivial
            have r9 := Ext.refl w9
            have z9 := hx9.1.size
            rcases iI with _|_|_|_|_|_|_|_|_|iI
            · have e := Option.some.inj ho
              subst e
              have a5 := hag.at 5 KR
              simp only [S5, ↓reduceIte, Nat.reduceEqDiff, initF, *] at a5
              clear hag hdep ho
              refine ⟨fun _ => ?_, fun h => absurd h (by decide)⟩
              refine relStep_off rfl ?_
              (repeat' first
    | ((with_reducible refine at_row ?_); refine row1_a fun _ _ _ _ _ _ _ => ?_)
    | with_reducible first | (first | apply alloc_k | apply row_k); intro _ _ _ _ _ _ | (first | apply fork | apply forkp) <;> intro _ | refine forke (fun _ => ?_) fun _ _ => ?_ | refine tail_k fun _ _ _ => ?_ | refine ext_k fun _ _ _ => ?_ | refine need_a ?_ | refine st_agg KR rfl ON fun _ _ _ _ => ?_ | refine wpd_q_a ?_
    | simp (maxDischargeDepth := 3) only [↓X, ↓Y, ↓Q, S1, ↓reduceIte, Nat.reduceEqDiff, Nat.reduceAdd, Int.reduceLT, Int.reduceLE, Int.reduceNeg, Int.reduceBEq, Int.reduceBNe, Int.reduceEq, Nat.reduceLeDiff, Nat.reduceMul, Nat.reduceLT, *]
    | simp (singlePass := true) (maxDischargeDepth := 99) only [*, S2, Nat.reduceLT])
            · have e := Option.some.inj ho
              subst e
              have a0 := hag.at 0 KR
              simp only [S5, ↓reduceIte, Nat.reduceEqDiff, initF, *] at a0
              clear hag hdep ho
              refine ⟨fun _ => ?_, fun h => absurd h (by decide)⟩
              refine relStep_off rfl ?_
              (repeat' first
    | ((with_reducible refine at_row ?_); refine row1_a fun _ _ _ _ _ _ _ => ?_)
    | with_reducible first | (first | apply alloc_k | apply row_k); intro _ _ _ _ _ _ | (first | apply fork | apply forkp) <;> intro _ | refine forke (fun _ => ?_) fun _ _ => ?_ | refine tail_k fun _ _ _ => ?_ | refine ext_k fun _ _ _ => ?_ | refine need_a ?_ | refine st_agg KR rfl ON fun _ _ _ _ => ?_ | refine wpd_q_a ?_
    | simp (maxDischargeDepth := 3) only [↓X, ↓Y, ↓Q, S1, ↓reduceIte, Nat.reduceEqDiff, Nat.reduceAdd, Int.reduceLT, Int.reduceLE, Int.reduceNeg, Int.reduceBEq, Int.reduceBNe, Int.reduceEq, Nat.reduceLeDiff, Nat.reduceMul, Nat.reduceLT, *]
    | simp (singlePass := true) (maxDischargeDepth := 99) only [*, S2, Nat.reduceLT])
            · have e := Option.some.inj ho
              subst e
              have a3 := hag.at 3 KR
              simp only [S5, ↓reduceIte, Nat.reduceEqDiff, initF, *] at a3
              clear hag hdep ho
              refine ⟨fun _ => ?_, fun h => absurd h (by decide)⟩
              refine relStep_off rfl ?_
              (repeat' first
    | ((with_reducible refine at_row ?_); refine row1_a fun _ _ _ _ _ _ _ => ?_)
    | with_reducible first | (first | apply alloc_k | apply row_k); intro _ _ _ _ _ _ | (first | apply fork | apply forkp) <;> intro _ | refine forke (fun _ => ?_) fun _ _ => ?_ | refine tail_k fun _ _ _ => ?_ | refine ext_k fun _ _ _ => ?_ | refine need_a ?_ | refine st_agg KR rfl ON fun _ _ _ _ => ?_ | refine wpd_q_a ?_
    | simp (maxDischargeDepth := 3) only [↓X, ↓Y, ↓Q, S1, ↓reduceIte, Nat.reduceEqDiff, Nat.reduceAdd, Int.reduceLT, Int.reduceLE, Int.reduceNeg, Int.reduceBEq, Int.reduceBNe, Int.reduceEq, Nat.reduceLeDiff, Nat.reduceMul, Nat.reduceLT, *]
    | simp (singlePass := true) (maxDischargeDepth := 99) only [*, S2, Nat.reduceLT])
            · have e := Option.some.inj ho
              subst e
              have a8 := hag.at 8 KR
              simp only [S5, ↓reduceIte, Nat.reduceEqDiff, initF, *] at a8
              clear hag hdep ho
              refine ⟨fun _ => ?_, fun h => absurd h (by decide)⟩
              refine relStep_off rfl ?_
              (repeat' first
    | ((with_reducible refine at_row ?_); refine row1_a fun _ _ _ _ _ _ _ => ?_)
    | with_reducible first | (first | apply alloc_k | apply row_k); intro _ _ _ _ _ _ | (first | apply fork | apply forkp) <;> intro _ | refine forke (fun _ => ?_) fun _ _ => ?_ | refine tail_k fun _ _ _ => ?_ | refine ext_k fun _ _ _ => ?_ | refine need_a ?_ | refine st_agg KR rfl ON fun _ _ _ _ => ?_ | refine wpd_q_a ?_
    | simp (maxDischargeDepth := 3) only [↓X, ↓Y, ↓Q, S1, ↓reduceIte, Nat.reduceEqDiff, Nat.reduceAdd, Int.reduceLT, Int.reduceLE, Int.reduceNeg, Int.reduceBEq, Int.reduceBNe, Int.reduceEq, Nat.reduceLeDiff, Nat.reduceMul, Nat.reduceLT, *]
    | simp (singlePass := true) (maxDischargeDepth := 99) only [*, S2, Nat.reduceLT])
            · have e := Option.some.inj ho
              subst e
              have a8 := hag.at 8 KR
              simp only [S5, ↓reduceIte, Nat.reduceEqDiff, initF, *] at a8
              clear hag hdep ho
              refine ⟨fun _ => ?_, fun h => absurd h (by decide)⟩
              refine relStep_off rfl ?_
              (repeat' first
    | ((with_reducible refine at_row ?_); refine row1_a fun _ _ _ _ _ _ _ => ?_)
    | with_reducible first | (first | apply alloc_k | apply row_k); intro _ _ _ _ _ _ | (first | apply fork | apply forkp) <;> intro _ | refine forke (fun _ => ?_) fun _ _ => ?_ | refine tail_k fun _ _ _ => ?_ | refine ext_k fun _ _ _ => ?_ | refine need_a ?_ | refine st_agg KR rfl ON fun _ _ _ _ => ?_ | refine wpd_q_a ?_
    | simp (maxDischargeDepth := 3) only [↓X, ↓Y, ↓Q, S1, ↓reduceIte, Nat.reduceEqDiff, Nat.reduceAdd, Int.reduceLT, Int.reduceLE, Int.reduceNeg, Int.reduceBEq, Int.reduceBNe, Int.reduceEq, Nat.reduceLeDiff, Nat.reduceMul, Nat.reduceLT, *]
    | simp (singlePass := true) (maxDischargeDepth := 99) only [*, S2, Nat.reduceLT])
            · have e := Option.some.inj ho
              subst e
              have a0 := hag.at 0 KR
              simp only [S5, ↓reduceIte, Nat.reduceEqDiff, initF, *] at a0
              clear hag hdep ho
              refine ⟨fun _ => ?_, fun h => absurd h (by decide)⟩
              refine relStep_off rfl ?_
              (repeat' first
    | ((with_reducible refine at_row ?_); refine row1_a fun _ _ _ _ _ _ _ => ?_)
    | with_reducible first | (first | apply alloc_k | apply row_k); intro _ _ _ _ _ _ | (first | apply fork | apply forkp) <;> intro _ | refine forke (fun _ => ?_) fun _ _ => ?_ | refine tail_k fun _ _ _ => ?_ | refine ext_k fun _ _ _ => ?_ | refine need_a ?_ | refine st_agg KR rfl ON fun _ _ _ _ => ?_ | refine wpd_q_a ?_
    | simp (maxDischargeDepth := 3) only [↓X, ↓Y, ↓Q, S1, ↓reduceIte, Nat.reduceEqDiff, Nat.reduceAdd, Int.reduceLT, Int.reduceLE, Int.reduceNeg, Int.reduceBEq, Int.reduceBNe, Int.reduceEq, Nat.reduceLeDiff, Nat.reduceMul, Nat.reduceLT, *]
    | simp (singlePass := true) (maxDischargeDepth := 99) only [*, S2, Nat.reduceLT])
            · have e := Option.some.inj ho
              subst e
              have d0 : (gF 47) = .slice (some ⟨rn, 0, none⟩) n n := hdep ⟨0, .data⟩ (by simp) rfl _ _ rfl rfl
              have d1 : (gF 48) = .int .i64 i := hdep ⟨1, .data⟩ (by simp) rfl _ _ rfl rfl
              clear hag hdep ho
              refine ⟨fun _ => ?_, fun h => absurd h (by decide)⟩
              refine relStep_off rfl ?_
              (repeat' first
    | ((with_reducible refine at_row ?_); refine row1_a fun _ _ _ _ _ _ _ => ?_)
    | with_reducible first | (first | apply alloc_k | apply row_k); intro _ _ _ _ _ _ | (first | apply fork | apply forkp) <;> intro _ | refine forke (fun _ => ?_) fun _ _ => ?_ | refine tail_k fun _ _ _ => ?_ | refine ext_k fun _ _ _ => ?_ | refine need_a ?_ | refine st_agg KR rfl ON fun _ _ _ _ => ?_ | refine wpd_q_a ?_
    | simp (maxDischargeDepth := 3) only [↓X, ↓Y, ↓Q, S1, ↓reduceIte, Nat.reduceEqDiff, Nat.reduceAdd, Int.reduceLT, Int.reduceLE, Int.reduceNeg, Int.reduceBEq, Int.reduceBNe, Int.reduceEq, Nat.reduceLeDiff, Nat.reduceMul, Nat.reduceLT, *]
    | simp (singlePass := true) (maxDischargeDepth := 99) only [*, S2, Nat.reduceLT])
            · have e := Option.some.inj ho
              subst e
              have d4 : (gF 51) = .int .i64 k := hdep ⟨4, .data⟩ (by simp) rfl _ _ rfl rfl
              have d6 : (gF 53) = .pointer (some ⟨rn, i, none⟩) := hdep ⟨6, .data⟩ (by simp) rfl _ _ rfl rfl
              clear hag hdep ho
              refine ⟨fun h => absurd rfl h, fun _ => ?_⟩
              refine relStep_off rfl ?_
              (repeat' first
    | ((with_reducible refine at_row ?_); refine row1_a fun _ _ _ _ _ _ _ => ?_)
    | with_reducible first | (first | apply alloc_k | apply row_k); intro _ _ _ _ _ _ | (first | apply fork | apply forkp) <;> intro _ | refine forke (fun _ => ?_) fun _ _ => ?_ | refine tail_k fun _ _ _ => ?_ | refine ext_k fun _ _ _ => ?_ | refine need_a ?_ | refine st_agg KR rfl ON fun _ _ _ _ => ?_ | refine wpd_q_a ?_
    | simp (maxDischargeDepth := 3) only [↓X, ↓Y, ↓Q, S1, ↓reduceIte, Nat.reduceEqDiff, Nat.reduceAdd, Int.reduceLT, Int.reduceLE, Int.reduceNeg, Int.reduceBEq, Int.reduceBNe, Int.reduceEq, Nat.reduceLeDiff, Nat.reduceMul, Nat.reduceLT, *]
    | simp (singlePass := true) (maxDischargeDepth := 99) only [*, S2, Nat.reduceLT])
              refine store_intro (i := i) KR (hx9.2.1 (hq rfl)) (by rw [List.length_map, hl2]; exact hi0) rfl fun w10 hb10 hc10 => ?_
              exact ⟨⟨hx9.1.trans_chg hc10 (.inl rfl), fun e => (by cases e), fun _ => (by rw [List.map_set]; exact hb10)⟩, fun j u _ h => h⟩
            · have e := Option.some.inj ho
              subst e
              have d2 : (gF 49) = .slice (some ⟨rq, 0, none⟩) n n := hdep ⟨2, .data⟩ (by simp) rfl _ _ rfl rfl
              have d3 : (gF 50) = .int .i64 k := hdep ⟨3, .data⟩ (by simp) rfl _ _ rfl rfl
              clear hag hdep ho
              refine ⟨fun _ => ?_, fun h => absurd h (by decide)⟩
              refine relStep_off rfl ?_
              (repeat' first
    | ((with_reducible refine at_row ?_); refine row1_a fun _ _ _ _ _ _ _ => ?_)
    | with_reducible first | (first | apply alloc_k | apply row_k); intro _ _ _ _ _ _ | (first | apply fork | apply forkp) <;> intro _ | refine forke (fun _ => ?_) fun _ _ => ?_ | refine tail_k fun _ _ _ => ?_ | refine ext_k fun _ _ _ => ?_ | refine need_a ?_ | refine st_agg KR rfl ON fun _ _ _ _ => ?_ | refine wpd_q_a ?_
    | simp (maxDischargeDepth := 3) only [↓X, ↓Y, ↓Q, S1, ↓reduceIte, Nat.reduceEqDiff, Nat.reduceAdd, Int.reduceLT, Int.reduceLE, Int.reduceNeg, Int.reduceBEq, Int.reduceBNe, Int.reduceEq, Nat.reduceLeDiff, Nat.reduceMul, Nat.reduceLT, *]
    | simp (singlePass := true) (maxDischargeDepth := 99) only [*, S2, Nat.reduceLT])
            · omega
          · intro g9 w9 hx9 hR hag
            have s9 := hx9.1.sc
            have n9 : Now w9 := trivial
            have r9 := Ext.refl w9
            have z9 := hx9.1.size
            have d5 : (g9 52) = .int .i64 i := hR 5 _ _ (by decide) rfl rfl
            have d8 : (g9 54) = .pointer (some ⟨rq, k, none⟩) := hR 8 _ _ (by decide) rfl rfl
            clear hag hR
            simp only [List.drop_succ_cons, List.drop_zero]
            have hY9 := hN6.next d1 d2 d3 hx9.1 (hx9.2.2 rfl) (by rw [List.length_set]; exact hl2) (fun x hxn => by
              have := hN6.hx x hxn
              rw [List.getD_eq_getElem?_getD, List.getElem?_set]
              rw [List.getD_eq_getElem?_getD] at this
              split
              · first | (split <;> simp only [Option.getD_some, Option.getD_none] <;> omega) | (simp only [Option.getD_some]; omega)
              · exact this)
            have krq9 := hY9.hq.bk
            have cq := Chg.refl' w9 rq
            have cq9 : Cg rq w9 w9 := cq
            clear krq kq kn
            (repeat' first
    | ((with_reducible refine at_row ?_); refine row1_a fun _ _ _ _ _ _ _ => ?_)
    | with_reducible first | (first | apply alloc_k | apply row_k); intro _ _ _ _ _ _ | (first | apply fork | apply forkp) <;> intro _ | refine forke (fun _ => ?_) fun _ _ => ?_ | refine tail_k fun _ _ _ => ?_ | refine ext_k fun _ _ _ => ?_ | refine need_a ?_ | refine st_agg KR rfl ON fun _ _ _ _ => ?_ | refine wpd_q_a ?_
    | simp (maxDischargeDepth := 3) only [↓X, ↓Y, ↓Q, S1, ↓reduceIte, Nat.reduceEqDiff, Nat.reduceAdd, Int.reduceLT, Int.reduceLE, Int.reduceNeg, Int.reduceBEq, Int.reduceBNe, Int.reduceEq, Nat.reduceLeDiff, Nat.reduceMul, Nat.reduceLT, *]
    | simp (singlePass := true) (maxDischargeDepth := 99) only [*, S2, Nat.reduceLT])
            refine st_one KR (by rw [List.length_map, hl1]; exact hlt) rfl fun w10 n10 k10 s10 => ?_
            have hc10 : Cg rq w9 w10 := FR
            have hY10 := hY9.prev d1 d2 d3 (pv := st'.pv.set k (i : Nat)) hc10 (by have := k10.2.1 _ k10.2.2.1; rw [List.map_set]; exact this) (by rw [List.length_set]; exact hl1) (fun x hxn => by
              have := hN6.hr x hxn
              rw [List.getD_eq_getElem?_getD, List.getElem?_set]
              rw [List.getD_eq_getElem?_getD] at this
              split
              · first | (split <;> simp only [Option.getD_some, Option.getD_none] <;> omega) | (simp only [Option.getD_some]; omega)
              · exact this)
            (repeat' first
    | ((with_reducible refine at_row ?_); refine row1_a fun _ _ _ _ _ _ _ => ?_)
    | with_reducible first | (first | apply alloc_k | apply row_k); intro _ _ _ _ _ _ | (first | apply fork | apply forkp) <;> intro _ | refine forke (fun _ => ?_) fun _ _ => ?_ | refine tail_k fun _ _ _ => ?_ | refine ext_k fun _ _ _ => ?_ | refine need_a ?_ | refine st_agg KR rfl ON fun _ _ _ _ => ?_ | refine wpd_q_a ?_
    | simp (maxDischargeDepth := 3) only [↓X, ↓Y, ↓Q, S1, ↓reduceIte, Nat.reduceEqDiff, Nat.reduceAdd, Int.reduceLT, Int.reduceLE, Int.reduceNeg, Int.reduceBEq, Int.reduceBNe, Int.reduceEq, Nat.reduceLeDiff, Nat.reduceMul, Nat.reduceLT, *]
    | simp (singlePass := true) (maxDischargeDepth := 99) only [*, S2, Nat.reduceLT])
            exact ⟨(hT6.trans (Tn.chg hx9.1 (.inr (.inr rfl)))).trans (Tn.chg hc10 (.inr (.inl rfl))), _, _, rfl, rfl, hY10⟩
        · rw [if_neg hneg] at hJ
          obtain ⟨y, hy⟩ : ∃ y : Nat, st'.pv.getD k 0 = y := ⟨(st'.pv.getD k 0).toNat, by omega⟩
          have hyn : y < n := by omega
          rw [hy, Int.toNat_natCast] at hJ
          rw [hy] at hpk
          have hny : ¬ ((y : Int) < 0) := by omega
          (repeat' first
    | ((with_reducible refine wpd_at 7 ?_); refine wpd_hold ?_)
    | ((with_reducible refine wpd_at 6 ?_); refine wpd_mid (m := 11) KR KR KR rfl ?_)
    | ((with_reducible refine at_row ?_); refine row1_a fun _ _ _ _ _ _ _ => ?_)
    | with_reducible first | (first | apply alloc_k | apply row_k); intro _ _ _ _ _ _ | (first | apply fork | apply forkp) <;> intro _ | refine forke (fun _ => ?_) fun _ _ => ?_ | refine tail_k fun _ _ _ => ?_ | refine ext_k fun _ _ _ => ?_ | refine need_a ?_ | refine st_agg KR rfl ON fun _ _ _ _ => ?_ | refine wpd_q_a ?_
    | simp (maxDischargeDepth := 3) only [↓X, ↓Y, ↓Q, S1, ↓reduceIte, Nat.reduceEqDiff, Nat.reduceAdd, Int.reduceLT, Int.reduceLE, Int.reduceNeg, Int.reduceBEq, Int.reduceBNe, Int.reduceEq, Nat.reduceLeDiff, Nat.reduceMul, Nat.reduceLT, *, hpk, joinV]
    | simp (singlePass := true) (maxDischargeDepth := 99) only [*, S2, Nat.reduceLT, hpk, joinV])
          rename_i w5b n5b s5b
          have h5b : Ext w5 w5b := FR
          have hN5b := hN5.ext h5b
          have hT5b := hT5.trans (Tn.of h5b)
          clear hN5 hT5 kq kj krq
          cases hK : joinN al n f y ⟨st'.seen ||| 2 ^ k, st'.nx, st'.pv⟩ with
          | none =>
            rw [hK] at hJ
            cases hJ
          | some p =>
            obtain ⟨b3, s3⟩ := p
            have hcall := hih.out hN5b hyn (by rw [hK]; rfl)
            rw [hK] at hJ hcall
            refine CallsV.mono hcall fun v6 w6 hj => ?_
            obtain ⟨hT6, r6, s6, he, rfl, hN6⟩ := hj
            obtain ⟨rfl, rfl⟩ := Prod.mk.inj (Option.some.inj he)
            have hT6' := hT5b.trans hT6
            have n6 : Now w6 := trivial
            have r6 := Ext.refl w6
            have z6 := hN6.hB
            clear hcall he hT6 hT5b
            cases b3
            · simp only at hJ
              (repeat' first
    | ((with_reducible refine at_row ?_); refine row1_a fun _ _ _ _ _ _ _ => ?_)
    | with_reducible first | (first | apply alloc_k | apply row_k); intro _ _ _ _ _ _ | (first | apply fork | apply forkp) <;> intro _ | refine forke (fun _ => ?_) fun _ _ => ?_ | refine tail_k fun _ _ _ => ?_ | refine ext_k fun _ _ _ => ?_ | refine need_a ?_ | refine st_agg KR rfl ON fun _ _ _ _ => ?_ | refine wpd_q_a ?_
    | simp (maxDischargeDepth := 3) only [↓X, ↓Y, ↓Q, S1, ↓reduceIte, Nat.reduceEqDiff, Nat.reduceAdd, Int.reduceLT, Int.reduceLE, Int.reduceNeg, Int.reduceBEq, Int.reduceBNe, Int.reduceEq, Nat.reduceLeDiff, Nat.reduceMul, Nat.reduceLT, *]
    | simp (singlePass := true) (maxDischargeDepth := 99) only [*, S2, Nat.reduceLT])
              rename_i w7 n7 s7
              have h67 : Ext w6 w7 := FR
              have I7 : Hid (Tn bs rq rn w w7 ∧ ∃ st', NxB B bp bs bq bj bn rq rn n vd va al st' w7 ∧ joinL al i (joinN al n f) ((List.range n).drop (k + 1)) st' = some (r, s2)) := ⟨hT6'.trans (Tn.of h67), s3, hN6.ext h67, hJ⟩
              refine next_g hk hlt ?_
              (repeat' first
    | ((with_reducible refine at_row ?_); refine row1_a fun _ _ _ _ _ _ _ => ?_)
    | with_reducible first | (first | apply alloc_k | apply row_k); intro _ _ _ _ _ _ | (first | apply fork | apply forkp) <;> intro _ | refine forke (fun _ => ?_) fun _ _ => ?_ | refine tail_k fun _ _ _ => ?_ | refine ext_k fun _ _ _ => ?_ | refine need_a ?_ | refine st_agg KR rfl ON fun _ _ _ _ => ?_ | refine wpd_q_a ?_
    | simp (maxDischargeDepth := 3) only [↓X, ↓Y, ↓Q, S1, ↓reduceIte, Nat.reduceEqDiff, Nat.reduceAdd, Int.reduceLT, Int.reduceLE, Int.reduceNeg, Int.reduceBEq, Int.reduceBNe, Int.reduceEq, Nat.reduceLeDiff, Nat.reduceMul, Nat.reduceLT, *]
    | simp (singlePass := true) (maxDischargeDepth := 99) only [*, S2, Nat.reduceLT])
            · simp only at hJ
              obtain ⟨rfl, rfl⟩ := Prod.mk.inj (Option.some.inj hJ)
              (repeat' first
    | ((with_reducible refine wpd_at 7 ?_); refine wpd_hold ?_)
    | ((with_reducible refine at_row ?_); refine row1_a fun _ _ _ _ _ _ _ => ?_)
    | with_reducible first | (first | apply alloc_k | apply row_k); intro _ _ _ _ _ _ | (first | apply fork | apply forkp) <;> intro _ | refine forke (fun _ => ?_) fun _ _ => ?_ | refine tail_k fun _ _ _ => ?_ | refine ext_k fun _ _ _ => ?_ | refine need_a ?_ | refine st_agg KR rfl ON fun _ _ _ _ => ?_ | refine wpd_q_a ?_
    | simp (maxDischargeDepth := 3) only [↓X, ↓Y, ↓Q, S1, ↓reduceIte, Nat.reduceEqDiff, Nat.reduceAdd, Int.reduceLT, Int.reduceLE, Int.reduceNeg, Int.reduceBEq, Int.reduceBNe, Int.reduceEq, Nat.reduceLeDiff, Nat.reduceMul, Nat.reduceLT, *]
    | simp (singlePass := true) (maxDischargeDepth := 99) only [*, S2, Nat.reduceLT])
              rename_i w7 n7 s7
              have h67 : Ext w6 w7 := FR
              have hN7 := hN6.ext h67
              have hT7 := hT6'.trans (Tn.of h67)
              clear hN6 hT6' hJ s7
              have nb := blk_ne hN7.kn hN7.hn (by decide)
              have nb2 := blk_ne hN7.kq hN7.hn (by decide)
              have nb3 := hN7.hn
              have kn := hN7.kn.bk
              have kq := hN7.kq.bk
              have krq := hN7.hq.bk
              have hl1 := hN7.l1
              have hl2 := hN7.l2
              have rX := Ext.refl w7
              unfold wpdH
              refine wpd_relI 7 9 (fun q w' => Cg rn w7 w' ∧ (q = false → Blk w' rn 3 (s3.nx.map intV)) ∧ (q = true → Blk w' rn 3 ((s3.nx.set i (k : Nat)).map intV))) (by decide) (fun w h => ⟨(Chg.refl' w7 rn).trans_ext h, fun _ => nb3.ext h, fun e => (by cases e)⟩) (fun q a c h hx => ⟨h.1.trans_ext hx, fun e => (h.2.1 e).ext hx, fun e => (h.2.2 e).ext hx⟩) (fun iI v w9 => match iI with
                | 0 => v = .slice (some ⟨rn, 0, none⟩) n n
                | 1 => v = .int .i64 i
                | 2 => v = .slice (some ⟨rq, 0, none⟩) n n
                | 3 => v = .int .i64 k
                | 4 => v = .int .i64 k
                | 5 => v = .int .i64 i
                | 6 => v = .pointer (some ⟨rn, i, none⟩)
                | 7 => True
                | 8 => v = .pointer (some ⟨rq, k, none⟩)
                | _ => False) KR KR KR ?_ ?_ ?_
              · intro iI v w1 w2 hR hx9
                match iI, hR with
                | 0, h => exact h
                | 1, h => exact h
                | 2, h => exact h
                | 3, h => exact h
                | 4, h => exact h
                | 5, h => exact h
                | 6, h => exact h
                | 7, h => exact h
                | 8, h => exact h
              · intro iI oO hi ho qI gF w9 hx9 hq hdep hag
                have s9 := hx9.1.sc
                have n9 : Now w9 := trivial
                have r9 := Ext.refl w9
                have z9 := hx9.1.size
                rcases iI with _|_|_|_|_|_|_|_|_|iI
                · have e := Option.some.inj ho
                  subst e
                  have a5 := hag.at 5 KR
                  simp only [S5, ↓reduceIte, Nat.reduceEqDiff, initF, *] at a5
                  clear hag hdep ho
                  refine ⟨fun _ => ?_, fun h => absurd h (by decide)⟩
                  refine relStep_off rfl ?_
                  (repeat' first
    | ((with_reducible refine at_row ?_); refine row1_a fun _ _ _ _ _ _ _ => ?_)
    | with_reducible first | (first | apply alloc_k | apply row_k); intro _ _ _ _ _ _ | (first | apply fork | apply forkp) <;> intro _ | refine forke (fun _ => ?_) fun _ _ => ?_ | refine tail_k fun _ _ _ => ?_ | refine ext_k fun _ _ _ => ?_ | refine need_a ?_ | refine st_agg KR rfl ON fun _ _ _ _ => ?_ | refine wpd_q_a ?_
    | simp (maxDischargeDepth := 3) only [↓X, ↓Y, ↓Q, S1, ↓reduceIte, Nat.reduceEqDiff, Nat.reduceAdd, Int.reduceLT, Int.reduceLE, Int.reduceNeg, Int.reduceBEq, Int.reduceBNe, Int.reduceEq, Nat.reduceLeDiff, Nat.reduceMul, Nat.reduceLT, *]
    | simp (singlePass := true) (maxDischargeDepth := 99) only [*, S2, Nat.reduceLT])
                · have e := Option.some.inj ho
                  subst e
                  have a0 := hag.at 0 KR
                  simp only [S5, ↓reduceIte, Nat.reduceEqDiff, initF, *] at a0
                  clear hag hdep ho
                  refine ⟨fun _ => ?_, fun h => absurd h (by decide)⟩
                  refine relStep_off rfl ?_
                  (repeat' first
    | ((with_reducible refine at_row ?_); refine row1_a fun _ _ _ _ _ _ _ => ?_)
    | with_reducible first | (first | apply alloc_k | apply row_k); intro _ _ _ _ _ _ | (first | apply fork | apply forkp) <;> intro _ | refine forke (fun _ => ?_) fun _ _ => ?_ | refine tail_k fun _ _ _ => ?_ | refine ext_k fun _ _ _ => ?_ | refine need_a ?_ | refine st_agg KR rfl ON fun _ _ _ _ => ?_ | refine wpd_q_a ?_
    | simp (maxDischargeDepth := 3) only [↓X, ↓Y, ↓Q, S1, ↓reduceIte, Nat.reduceEqDiff, Nat.reduceAdd, Int.reduceLT, Int.reduceLE, Int.reduceNeg, Int.reduceBEq, Int.reduceBNe, Int.reduceEq, Nat.reduceLeDiff, Nat.reduceMul, Nat.reduceLT, *]
    | simp (singlePass := true) (maxDischargeDepth := 99) only [*, S2, Nat.reduceLT])
                · have e := Option.some.inj ho
                  subst e
                  have a3 := hag.at 3 KR
                  simp only [S5, ↓reduceIte, Nat.reduceEqDiff, initF, *] at a3
                  clear hag hdep ho
                  refine ⟨fun _ => ?_, fun h => absurd h (by decide)⟩
                  refine relStep_off rfl ?_
                  (repeat' first
    | ((with_reducible refine at_row ?_); refine row1_a fun _ _ _ _ _ _ _ => ?_)
    | with_reducible first | (first | apply alloc_k | apply row_k); intro _ _ _ _ _ _ | (first | apply fork | apply forkp) <;> intro _ | refine forke (fun _ => ?_) fun _ _ => ?_ | refine tail_k fun _ _ _ => ?_ | refine ext_k fun _ _ _ => ?_ | refine need_a ?_ | refine st_agg KR rfl ON fun _ _ _ _ => ?_ | refine wpd_q_a ?_
    | simp (maxDischargeDepth := 3) only [↓X, ↓Y, ↓Q, S1, ↓reduceIte, Nat.reduceEqDiff, Nat.reduceAdd, Int.reduceLT, Int.reduceLE, Int.reduceNeg, Int.reduceBEq, Int.reduceBNe, Int.reduceEq, Nat.reduceLeDiff, Nat.reduceMul, Nat.reduceLT, *]
    | simp (singlePass := true) (maxDischargeDepth := 99) only [*, S2, Nat.reduceLT])
                · have e := Option.some.inj ho
                  subst e
                  have a8 := hag.at 8 KR
                  simp only [S5, ↓reduceIte, Nat.reduceEqDiff, initF, *] at a8
                  clear hag hdep ho
                  refine ⟨fun _ => ?_, fun h => absurd h (by decide)⟩
                  refine relStep_off rfl ?_
                  (repeat' first
    | ((with_reducible refine at_row ?_); refine row1_a fun _ _ _ _ _ _ _ => ?_)
    | with_reducible first | (first | apply alloc_k | apply row_k); intro _ _ _ _ _ _ | (first | apply fork | apply forkp) <;> intro _ | refine forke (fun _ => ?_) fun _ _ => ?_ | refine tail_k fun _ _ _ => ?_ | refine ext_k fun _ _ _ => ?_ | refine need_a ?_ | refine st_agg KR rfl ON fun _ _ _ _ => ?_ | refine wpd_q_a ?_
    | simp (maxDischargeDepth := 3) only [↓X, ↓Y, ↓Q, S1, ↓reduceIte, Nat.reduceEqDiff, Nat.reduceAdd, Int.reduceLT, Int.reduceLE, Int.reduceNeg, Int.reduceBEq, Int.reduceBNe, Int.reduceEq, Nat.reduceLeDiff, Nat.reduceMul, Nat.reduceLT, *]
    | simp (singlePass := true) (maxDischargeDepth := 99) only [*, S2, Nat.reduceLT])
                · have e := Option.some.inj ho
                  subst e
                  have a8 := hag.at 8 KR
                  simp only [S5, ↓reduceIte, Nat.reduceEqDiff, initF, *] at a8
                  clear hag hdep ho
                  refine ⟨fun _ => ?_, fun h => absurd h (by decide)⟩
                  refine relStep_off rfl ?_
                  (repeat' first
    | ((with_reducible refine at_row ?_); refine row1_a fun _ _ _ _ _ _ _ => ?_)
    | with_reducible first | (first | apply alloc_k | apply row_k); intro _ _ _ _ _ _ | (first | apply fork | apply forkp) <;> intro _ | refine forke (fun _ => ?_) fun _ _ => ?_ | refine tail_k fun _ _ _ => ?_ | refine ext_k fun _ _ _ => ?_ | refine need_a ?_ | refine st_agg KR rfl ON fun _ _ _ _ => ?_ | refine wpd_q_a ?_
    | simp (maxDischargeDepth := 3) only [↓X, ↓Y, ↓Q, S1, ↓reduceIte, Nat.reduceEqDiff, Nat.reduceAdd, Int.reduceLT, Int.reduceLE, Int.reduceNeg, Int.reduceBEq, Int.reduceBNe, Int.reduceEq, Nat.reduceLeDiff, Nat.reduceMul, Nat.reduceLT, *]
    | simp (singlePass := true) (maxDischargeDepth := 99) only [*, S2, Nat.reduceLT])
                · have e := Option.some.inj ho
                  subst e
                  have a0 := hag.at 0 KR
                  simp only [S5, ↓reduceIte, Nat.reduceEqDiff, initF, *] at a0
                  clear hag hdep ho
                  refine ⟨fun _ => ?_, fun h => absurd h (by decide)⟩
                  refine relStep_off rfl ?_
                  (repeat' first
    | ((with_reducible refine at_row ?_); refine row1_a fun _ _ _ _ _ _ _ => ?_)
    | with_reducible first | (first | apply alloc_k | apply row_k); intro _ _ _ _ _ _ | (first | apply fork | apply forkp) <;> intro _ | refine forke (fun _ => ?_) fun _ _ => ?_ | refine tail_k fun _ _ _ => ?_ | refine ext_k fun _ _ _ => ?_ | refine need_a ?_ | refine st_agg KR rfl ON fun _ _ _ _ => ?_ | refine wpd_q_a ?_
    | simp (maxDischargeDepth := 3) only [↓X, ↓Y, ↓Q, S1, ↓reduceIte, Nat.reduceEqDiff, Nat.reduceAdd, Int.reduceLT, Int.reduceLE, Int.reduceNeg, Int.reduceBEq, Int.reduceBNe, Int.reduceEq, Nat.reduceLeDiff, Nat.reduceMul, Nat.reduceLT, *]
    | simp (singlePass := true) (maxDischargeDepth := 99) only [*, S2, Nat.reduceLT])
                · have e := Option.some.inj ho
                  subst e
                  have d0 : (gF 47) = .slice (some ⟨rn, 0, none⟩) n n := hdep ⟨0, .data⟩ (by simp) rfl _ _ rfl rfl
                  have d1 : (gF 48) = .int .i64 i := hdep ⟨1, .data⟩ (by simp) rfl _ _ rfl rfl
                  clear hag hdep ho
                  refine ⟨fun _ => ?_, fun h => absurd h (by decide)⟩
                  refine relStep_off rfl ?_
                  (repeat' first
    | ((with_reducible refine at_row ?_); refine row1_a fun _ _ _ _ _ _ _ => ?_)
    | with_reducible first | (first | apply alloc_k | apply row_k); intro _ _ _ _ _ _ | (first | apply fork | apply forkp) <;> intro _ | refine forke (fun _ => ?_) fun _ _ => ?_ | refine tail_k fun _ _ _ => ?_ | refine ext_k fun _ _ _ => ?_ | refine need_a ?_ | refine st_agg KR rfl ON fun _ _ _ _ => ?_ | refine wpd_q_a ?_
    | simp (maxDischargeDepth := 3) only [↓X, ↓Y, ↓Q, S1, ↓reduceIte, Nat.reduceEqDiff, Nat.reduceAdd, Int.reduceLT, Int.reduceLE, Int.reduceNeg, Int.reduceBEq, Int.reduceBNe, Int.reduceEq, Nat.reduceLeDiff, Nat.reduceMul, Nat.reduceLT, *]
    | simp (singlePass := true) (maxDischargeDepth := 99) only [*, S2, Nat.reduceLT])
                · have e := Option.some.inj ho
                  subst e
                  have d4 : (gF 51) = .int .i64 k := hdep ⟨4, .data⟩ (by simp) rfl _ _ rfl rfl
                  have d6 : (gF 53) = .pointer (some ⟨rn, i, none⟩) := hdep ⟨6, .data⟩ (by simp) rfl _ _ rfl rfl
                  clear hag hdep ho
                  refine ⟨fun h => absurd rfl h, fun _ => ?_⟩
                  refine relStep_off rfl ?_
                  (repeat' first
    | ((with_reducible refine at_row ?_); refine row1_a fun _ _ _ _ _ _ _ => ?_)
    | with_reducible first | (first | apply alloc_k | apply row_k); intro _ _ _ _ _ _ | (first | apply fork | apply forkp) <;> intro _ | refine forke (fun _ => ?_) fun _ _ => ?_ | refine tail_k fun _ _ _ => ?_ | refine ext_k fun _ _ _ => ?_ | refine need_a ?_ | refine st_agg KR rfl ON fun _ _ _ _ => ?_ | refine wpd_q_a ?_
    | simp (maxDischargeDepth := 3) only [↓X, ↓Y, ↓Q, S1, ↓reduceIte, Nat.reduceEqDiff, Nat.reduceAdd, Int.reduceLT, Int.reduceLE, Int.reduceNeg, Int.reduceBEq, Int.reduceBNe, Int.reduceEq, Nat.reduceLeDiff, Nat.reduceMul, Nat.reduceLT, *]
    | simp (singlePass := true) (maxDischargeDepth := 99) only [*, S2, Nat.reduceLT])
                  refine store_intro (i := i) KR (hx9.2.1 (hq rfl)) (by rw [List.length_map, hl2]; exact hi0) rfl fun w10 hb10 hc10 => ?_
                  exact ⟨⟨hx9.1.trans_chg hc10 (.inl rfl), fun e => (by cases e), fun _ => (by rw [List.map_set]; exact hb10)⟩, fun j u _ h => h⟩
                · have e := Option.some.inj ho
                  subst e
                  have d2 : (gF 49) = .slice (some ⟨rq, 0, none⟩) n n := hdep ⟨2, .data⟩ (by simp) rfl _ _ rfl rfl
                  have d3 : (gF 50) = .int .i64 k := hdep ⟨3, .data⟩ (by simp) rfl _ _ rfl rfl
                  clear hag hdep ho
                  refine ⟨fun _ => ?_, fun h => absurd h (by decide)⟩
                  refine relStep_off rfl ?_
                  (repeat' first
    | ((with_reducible refine at_row ?_); refine row1_a fun _ _ _ _ _ _ _ => ?_)
    | with_reducible first | (first | apply alloc_k | apply row_k); intro _ _ _ _ _ _ | (first | apply fork | apply forkp) <;> intro _ | refine forke (fun _ => ?_) fun _ _ => ?_ | refine tail_k fun _ _ _ => ?_ | refine ext_k fun _ _ _ => ?_ | refine need_a ?_ | refine st_agg KR rfl ON fun _ _ _ _ => ?_ | refine wpd_q_a ?_
    | simp (maxDischargeDepth := 3) only [↓X, ↓Y, ↓Q, S1, ↓reduceIte, Nat.reduceEqDiff, Nat.reduceAdd, Int.reduceLT, Int.reduceLE, Int.reduceNeg, Int.reduceBEq, Int.reduceBNe, Int.reduceEq, Nat.reduceLeDiff, Nat.reduceMul, Nat.reduceLT, *]
    | simp (singlePass := true) (maxDischargeDepth := 99) only [*, S2, Nat.reduceLT])
                · omega
              · intro g9 w9 hx9 hR hag
                have s9 := hx9.1.sc
                have n9 : Now w9 := trivial
                have r9 := Ext.refl w9
                have z9 := hx9.1.size
                have d5 : (g9 52) = .int .i64 i := hR 5 _ _ (by decide) rfl rfl
                have d8 : (g9 54) = .pointer (some ⟨rq, k, none⟩) := hR 8 _ _ (by decide) rfl rfl
                clear hag hR
                simp only [List.drop_succ_cons, List.drop_zero]
                have hZ9 := hN7.next d1 d2 d3 hx9.1 (hx9.2.2 rfl) (by rw [List.length_set]; exact hl2) (fun x hxn => by
                  have := hN7.hx x hxn
                  rw [List.getD_eq_getElem?_getD, List.getElem?_set]
                  rw [List.getD_eq_getElem?_getD] at this
                  split
                  · first | (split <;> simp only [Option.getD_some, Option.getD_none] <;> omega) | (simp only [Option.getD_some]; omega)
                  · exact this)
                have krq9 := hZ9.hq.bk
                have cq := Chg.refl' w9 rq
                have cq9 : Cg rq w9 w9 := cq
                clear krq kq kn
                (repeat' first
    | ((with_reducible refine at_row ?_); refine row1_a fun _ _ _ _ _ _ _ => ?_)
    | with_reducible first | (first | apply alloc_k | apply row_k); intro _ _ _ _ _ _ | (first | apply fork | apply forkp) <;> intro _ | refine forke (fun _ => ?_) fun _ _ => ?_ | refine tail_k fun _ _ _ => ?_ | refine ext_k fun _ _ _ => ?_ | refine need_a ?_ | refine st_agg KR rfl ON fun _ _ _ _ => ?_ | refine wpd_q_a ?_
    | simp (maxDischargeDepth := 3) only [↓X, ↓Y, ↓Q, S1, ↓reduceIte, Nat.reduceEqDiff, Nat.reduceAdd, Int.reduceLT, Int.reduceLE, Int.reduceNeg, Int.reduceBEq, Int.reduceBNe, Int.reduceEq, Nat.reduceLeDiff, Nat.reduceMul, Nat.reduceLT, *]
    | simp (singlePass := true) (maxDischargeDepth := 99) only [*, S2, Nat.reduceLT])
                refine st_one KR (by rw [List.length_map, hl1]; exact hlt) rfl fun w10 n10 k10 s10 => ?_
                have hc10 : Cg rq w9 w10 := FR
                have hZ10 := hZ9.prev d1 d2 d3 (pv := s3.pv.set k (i : Nat)) hc10 (by have := k10.2.1 _ k10.2.2.1; rw [List.map_set]; exact this) (by rw [List.length_set]; exact hl1) (fun x hxn => by
                  have := hN7.hr x hxn
                  rw [List.getD_eq_getElem?_getD, List.getElem?_set]
                  rw [List.getD_eq_getElem?_getD] at this
                  split
                  · first | (split <;> simp only [Option.getD_some, Option.getD_none] <;> omega) | (simp only [Option.getD_some]; omega)
                  · exact this)
                (repeat' first
    | ((with_reducible refine at_row ?_); refine row1_a fun _ _ _ _ _ _ _ => ?_)
    | with_reducible first | (first | apply alloc_k | apply row_k); intro _ _ _ _ _ _ | (first | apply fork | apply forkp) <;> intro _ | refine forke (fun _ => ?_) fun _ _ => ?_ | refine tail_k fun _ _ _ => ?_ | refine ext_k fun _ _ _ => ?_ | refine need_a ?_ | refine st_agg KR rfl ON fun _ _ _ _ => ?_ | refine wpd_q_a ?_
    | simp (maxDischargeDepth := 3) only [↓X, ↓Y, ↓Q, S1, ↓reduceIte, Nat.reduceEqDiff, Nat.reduceAdd, Int.reduceLT, Int.reduceLE, Int.reduceNeg, Int.reduceBEq, Int.reduceBNe, Int.reduceEq, Nat.reduceLeDiff, Nat.reduceMul, Nat.reduceLT, *]
    | simp (singlePass := true) (maxDischargeDepth := 99) only [*, S2, Nat.reduceLT])
                exact ⟨(hT7.trans (Tn.chg hx9.1 (.inr (.inr rfl)))).trans (Tn.chg hc10 (.inr (.inl rfl))), _, _, rfl, rfl, hZ10⟩
      · rw [if_pos (.inr c2)] at hJ
        (repeat' first
    | ((with_reducible refine at_row ?_); refine row1_a fun _ _ _ _ _ _ _ => ?_)
    | with_reducible first | (first | apply alloc_k | apply row_k); intro _ _ _ _ _ _ | (first | apply fork | apply forkp) <;> intro _ | refine forke (fun _ => ?_) fun _ _ => ?_ | refine tail_k fun _ _ _ => ?_ | refine ext_k fun _ _ _ => ?_ | refine need_a ?_ | refine st_agg KR rfl ON fun _ _ _ _ => ?_ | refine wpd_q_a ?_
    | simp (maxDischargeDepth := 3) only [↓X, ↓Y, ↓Q, S1, ↓reduceIte, Nat.reduceEqDiff, Nat.reduceAdd, Int.reduceLT, Int.reduceLE, Int.reduceNeg, Int.reduceBEq, Int.reduceBNe, Int.reduceEq, Nat.reduceLeDiff, Nat.reduceMul, Nat.reduceLT, *, hga, c2]
    | simp (singlePass := true) (maxDischargeDepth := 99) only [*, S2, Nat.reduceLT, hga, c2])
        refine next_g hk hlt ?_
        (repeat' first
    | ((with_reducible refine at_row ?_); refine row1_a fun _ _ _ _ _ _ _ => ?_)
    | with_reducible first | (first | apply alloc_k | apply row_k); intro _ _ _ _ _ _ | (first | apply fork | apply forkp) <;> intro _ | refine forke (fun _ => ?_) fun _ _ => ?_ | refine tail_k fun _ _ _ => ?_ | refine ext_k fun _ _ _ => ?_ | refine need_a ?_ | refine st_agg KR rfl ON fun _ _ _ _ => ?_ | refine wpd_q_a ?_
    | simp (maxDischargeDepth := 3) only [↓X, ↓Y, ↓Q, S1, ↓reduceIte, Nat.reduceEqDiff, Nat.reduceAdd, Int.reduceLT, Int.reduceLE, Int.reduceNeg, Int.reduceBEq, Int.reduceBNe, Int.reduceEq, Nat.reduceLeDiff, Nat.reduceMul, Nat.reduceLT, *]
    | simp (singlePass := true) (maxDischargeDepth := 99) only [*, S2, Nat.reduceLT])
        exact ⟨st', hN, hJ⟩
  · rintro g wk nk ⟨hi, hf, hp⟩
    simp (maxDischargeDepth := 3) only [U, ↓reduceIte, Nat.reduceEqDiff, *] at hf
    obtain ⟨hT, st', hN, hJ⟩ := hp.out
    rw [List.drop_eq_nil_of_le (by rw [List.length_range]; exact Nat.le_refl _), joinL] at hJ
    obtain ⟨rfl, rfl⟩ := Prod.mk.inj (Option.some.inj hJ)
    (repeat' first
    | ((with_reducible refine at_row ?_); refine row1_a fun _ _ _ _ _ _ _ => ?_)
    | with_reducible first | (first | apply alloc_k | apply row_k); intro _ _ _ _ _ _ | (first | apply fork | apply forkp) <;> intro _ | refine forke (fun _ => ?_) fun _ _ => ?_ | refine tail_k fun _ _ _ => ?_ | refine ext_k fun _ _ _ => ?_ | refine need_a ?_ | refine st_agg KR rfl ON fun _ _ _ _ => ?_ | refine wpd_q_a ?_
    | simp (maxDischargeDepth := 3) only [↓X, ↓Y, ↓Q, S1, ↓reduceIte, Nat.reduceEqDiff, Nat.reduceAdd, Int.reduceLT, Int.reduceLE, Int.reduceNeg, Int.reduceBEq, Int.reduceBNe, Int.reduceEq, Nat.reduceLeDiff, Nat.reduceMul, Nat.reduceLT, *]
    | simp (singlePass := true) (maxDischargeDepth := 99) only [*, S2, Nat.reduceLT])
    exact ⟨hT, _, _, rfl, rfl, hN⟩
theorem joinCall (h12 : n ≤ 12) (hal : al.length = n) (hal4 : ∀ x, al.getD x 0 < 4096) : ∀ (f : Nat) {w : World} {st : NSt} {i : Nat}, NxB B bp bs bq bj bn rq rn n vd va al st w → i < n → (joinN al n f i st).isSome → CallsV Tryd.prog 70 #[natV i, .pointer (some ⟨bp, 0, none⟩), .pointer (some ⟨bs, 0, none⟩), .pointer (some ⟨bq, 0, none⟩), .pointer (some ⟨bj, 0, none⟩), .pointer (some ⟨bn, 0, none⟩)] w (JoinP B bp bs bq bj bn rq rn n vd va al w (joinN al n f i st))
  | 0, _, _, _, _, _, h => by cases h
  | f + 1, _, _, _, hN, hi, h => joinStep d1 d2 d3 h12 hal hal4 f (fun hN' hi' h' => joinCall h12 hal hal4 f hN' hi' h') hN hi h
end
end Go.Proofs.YteeaccnklkcchaaDoor
