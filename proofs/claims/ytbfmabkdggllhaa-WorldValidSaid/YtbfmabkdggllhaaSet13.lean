/- The document's answer, layer 13: Set. -/
import Derived.Test.YtbfmabkdggllhaaClone13
import Derived.Test.YtbfmabkdggllhaaRow3
namespace Go.Proofs.Ytbfmabkdggllhaa
set_option linter.unusedSimpArgs false
set_option linter.unusedVariables false
open Go Go.RowKit
set_option maxRecDepth 100000
set_option linter.unusedSectionVars false
set_option maxHeartbeats 1000000
def setOk (x : WorldD) (host : Int) : Bool := sortedB x.replicas && idx host x.hosts.length
def setE (x : WorldD) (host : Int) : Int := if setOk x host = true then 0 else 1
def noW : WorldD := ⟨[], []⟩
def setW (x : WorldD) (host : Int) (h : StateD) : WorldD := if setOk x host = true then ⟨x.hosts.set host.toNat h, x.replicas⟩ else noW
theorem own_ne {w : World} {B B' e e' sz sz' b : Nat} {v v' : Value} {cs cs' : List (List Value)} (h : Own w B e sz v cs) (h' : Own w B' e' sz' v' cs') (hne : ¬ e = e') (hb : blockOf v = some b) : ¬ blockOf v' = some b := by
  rcases h.1.2 with ⟨rfl, _⟩ | ⟨g, cap, cur, rfl, _, hg, rest⟩
  · cases hb
  · rcases h'.1.2 with ⟨rfl, _⟩ | ⟨g', cap', cur', rfl, _, hg', rest'⟩
    · intro h9; cases h9
    · intro h9
      have e1 : g = b := Option.some.inj hb
      have e2 : g' = b := Option.some.inj h9
      subst e1
      subst e2
      rw [hg] at hg'
      injection hg' with h3
      injection h3 with _ h4
      exact hne h4
theorem OwnW.none (B : Nat) (w : World) : OwnW B (.agg #[.slice none 0 0, .slice none 0 0]) w noW := ⟨_, _, rfl, Own.nil _ _ _ _, Own.nil _ _ _ _⟩
section
variable {w : World} {B B' : Nat} {hv rv hv' rv' : Value} {x y : WorldD}
theorem ref13Set {host : Int} {h : StateD} (hB : B ≤ w.heap.size) (hx0 : WorldR w B hv rv x) (hl1 : x.hosts.length ≤ 1000000) (hl2 : x.replicas.length ≤ 1000000) : CallsV Try.prog 35 #[.agg #[hv, rv], intV host, stateV h] w fun v w' => Ext w w' ∧ ∃ u, v = .tuple #[u, intV (setE x host)] ∧ OwnW w.heap.size u w' (setW x host h) := by
  have hn : Now w := trivial
  have hx : Ext w w := Ext.refl w
  have hx' := hx0.sk hB
  have hX := hx'.2.2.2.2
  have hlen : x.hosts.length < 1000000000000 ∧ x.replicas.length < 1000000000000 := ⟨by omega, by omega⟩
  have hlen : Hid _ := hlen
  clear hl1 hl2
  obtain ⟨sb, hsb⟩ : ∃ sb, Hid (sortedB x.replicas = sb) := ⟨_, rfl⟩
  have hso := fun w' (hb : Bl B w w') (hB' : B ≤ w'.heap.size) => ref13Ascending hB' (WorldR.r (hX w' hb))
  rw [hsb.out] at hso
  have hbad : ¬ setOk x host = true → Hid (setE x host = 1 ∧ setW x host h = noW) := fun hh => ⟨by simp [setE, hh], by simp [setW, hh]⟩
  have hgood : setOk x host = true → Hid (setE x host = 0 ∧ setW x host h = ⟨x.hosts.set host.toNat h, x.replicas⟩) := fun hh => ⟨by simp [setE, hh], by simp [setW, hh]⟩
  have hok : setOk x host = (sb && idx host x.hosts.length) := by rw [setOk, hsb.out]
  generalize setE x host = e at *
  generalize setW x host h = W at *
  generalize setOk x host = ok at *
  subst hok
  have hbad : Hid _ := hbad
  have hgood : Hid _ := hgood
  clear hsb
  (refine callsV_of Try.func35 rfl (by kernel_rfl) (by kernel_rfl) ?_; rw [Try.results35])
  cases sb
  · obtain ⟨rfl, rfl⟩ := (hbad.out (by simp)).out
    clear hbad hgood
    (repeat' first
    | with_reducible refine alloc_k fun _ _ _ _ _ _ => ?_
    | ((with_reducible refine at_row ?_); refine row1_k (by rfl) (by decide) fun _ _ _ _ _ _ _ => ?_)
    | with_reducible refine row_k fun _ _ _ _ _ _ => ?_
    | with_reducible refine fork (fun _ => ?_) (fun _ => ?_)
    | with_reducible refine forkp (fun _ => ?_) (fun _ => ?_)
    | with_reducible refine forke (fun _ => ?_) (fun _ _ => ?_)
    | with_reducible refine tail_k fun _ _ _ => ?_
    | with_reducible refine ext_k fun _ _ _ => ?_
    | with_reducible refine need (by first | kernel_rfl | omega | assumption) ?_
    | with_reducible refine st_agg (by kernel_rfl) rfl (by simp only [natV, intV, S3, *]) fun _ _ _ _ => ?_
    | with_reducible refine wpd_quiet_lit (by kernel_rfl) (by kernel_rfl) (by kernel_rfl) ?_
    | ((with_reducible refine at_f 54 ?_); refine ret_k (hso _ FR FR) fun _ _ _ => ?_)
    | simp (maxDischargeDepth := 3) only [↓X, ↓Y, ↓Q, S1, ↓reduceIte, Nat.reduceEqDiff, Nat.reduceAdd, Int.reduceLT, Int.reduceLE, Int.reduceNeg, Int.reduceBEq, Int.reduceBNe, Int.reduceEq, Nat.reduceLeDiff, Nat.reduceMul, Nat.reduceLT, natV, intV, putAt, idxOk, flatP, *, stateV]
    | simp (singlePass := true) (maxDischargeDepth := 99) only [*, S2, Nat.reduceLT, stateV])
    exact ⟨_, rfl, OwnW.none _ _⟩
  · (repeat' first
    | with_reducible refine alloc_k fun _ _ _ _ _ _ => ?_
    | ((with_reducible refine at_row ?_); refine row1_k (by rfl) (by decide) fun _ _ _ _ _ _ _ => ?_)
    | with_reducible refine row_k fun _ _ _ _ _ _ => ?_
    | with_reducible refine fork (fun _ => ?_) (fun _ => ?_)
    | with_reducible refine forkp (fun _ => ?_) (fun _ => ?_)
    | with_reducible refine forke (fun _ => ?_) (fun _ _ => ?_)
    | with_reducible refine tail_k fun _ _ _ => ?_
    | with_reducible refine ext_k fun _ _ _ => ?_
    | with_reducible refine need (by first | kernel_rfl | omega | assumption) ?_
    | with_reducible refine st_agg (by kernel_rfl) rfl (by simp only [natV, intV, S3, *]) fun _ _ _ _ => ?_
    | with_reducible refine wpd_quiet_lit (by kernel_rfl) (by kernel_rfl) (by kernel_rfl) ?_
    | ((with_reducible refine at_f 54 ?_); refine ret_k (hso _ FR FR) fun _ _ _ => ?_)
    | simp (maxDischargeDepth := 3) only [↓X, ↓Y, ↓Q, S1, ↓reduceIte, Nat.reduceEqDiff, Nat.reduceAdd, Int.reduceLT, Int.reduceLE, Int.reduceNeg, Int.reduceBEq, Int.reduceBNe, Int.reduceEq, Nat.reduceLeDiff, Nat.reduceMul, Nat.reduceLT, natV, intV, putAt, idxOk, flatP, *, stateV]
    | simp (singlePass := true) (maxDischargeDepth := 99) only [*, S2, Nat.reduceLT, stateV])
    · obtain ⟨rfl, rfl⟩ := (hbad.out (by simp only [idx, Bool.true_and, Bool.and_eq_true, decide_eq_true_eq]; omega)).out
      exact ⟨_, rfl, OwnW.none _ _⟩
    · obtain ⟨rfl, rfl⟩ := (hbad.out (by simp only [idx, Bool.true_and, Bool.and_eq_true, decide_eq_true_eq]; omega)).out
      exact ⟨_, rfl, OwnW.none _ _⟩
    · rename_i hp1 hp2
      obtain ⟨rfl, rfl⟩ := (hgood.out (by simp only [idx, Bool.true_and, Bool.and_eq_true, decide_eq_true_eq]; omega)).out
      obtain ⟨k, rfl⟩ : ∃ k : Nat, host = (k : Int) := ⟨host.toNat, by omega⟩
      have hk : k < x.hosts.length := by omega
      clear hbad hgood hp1 hp2
      refine call_k (ref13Copy (B := B) FR (hX _ FR) hlen.out) ?_
      rintro _ w1 n1 s1 ⟨h2, r2, rfl, hown1, hown2⟩
      have o1 := hown1.o
      have o2 := hown2.o
      have v1 := (hown1.slN (f := stateC)).v (Nat.le_refl _)
      rw [show (fun x => Value.agg (stateC x).toArray) = stateV from rfl] at v1
      (repeat' first
    | with_reducible refine alloc_k fun _ _ _ _ _ _ => ?_
    | ((with_reducible refine at_row ?_); refine row1_k (by rfl) (by decide) fun _ _ _ _ _ _ _ => ?_)
    | with_reducible refine row_k fun _ _ _ _ _ _ => ?_
    | with_reducible refine fork (fun _ => ?_) (fun _ => ?_)
    | with_reducible refine forkp (fun _ => ?_) (fun _ => ?_)
    | with_reducible refine forke (fun _ => ?_) (fun _ _ => ?_)
    | with_reducible refine tail_k fun _ _ _ => ?_
    | with_reducible refine ext_k fun _ _ _ => ?_
    | with_reducible refine need (by first | kernel_rfl | omega | assumption) ?_
    | with_reducible refine st_agg (by kernel_rfl) rfl (by simp only [natV, intV, S3, *]) fun _ _ _ _ => ?_
    | with_reducible refine wpd_quiet_lit (by kernel_rfl) (by kernel_rfl) (by kernel_rfl) ?_
    | simp (maxDischargeDepth := 3) only [↓X, ↓Y, ↓Q, S1, ↓reduceIte, Nat.reduceEqDiff, Nat.reduceAdd, Int.reduceLT, Int.reduceLE, Int.reduceNeg, Int.reduceBEq, Int.reduceBNe, Int.reduceEq, Nat.reduceLeDiff, Nat.reduceMul, Nat.reduceLT, natV, intV, putAt, idxOk, flatP, *, stateV]
    | simp (singlePass := true) (maxDischargeDepth := 99) only [*, S2, Nat.reduceLT, stateV])
      have hlt1 := fun b hb => (hown1.lt b (by rw [← hown1.block]; exact hb)).2
      have hne1 := fun b hb => own_ne (b := b) hown1 hown2 (by decide) hb
      refine own_set (i := k) (vs := stateC h) (by kernel_rfl) (by decide) (o1.1 _ FR) (by simpa using hk) rfl (stateC_one h) fun b9 w9 n9 e9 hb9 hl9 hown9 s9 c9 => ?_
      have nw9 := Nw.of hb9
      have hlt9 := hlt1 b9 e9
      have hne9 := hne1 b9 e9
      have o9 := hown9.o
      rw [← List.map_set] at o9
      clear e9 hlt1 hne1 hown1 hown2 hown9 o1 v1
      (repeat' first
    | with_reducible refine alloc_k fun _ _ _ _ _ _ => ?_
    | ((with_reducible refine at_row ?_); refine row1_k (by rfl) (by decide) fun _ _ _ _ _ _ _ => ?_)
    | with_reducible refine row_k fun _ _ _ _ _ _ => ?_
    | with_reducible refine fork (fun _ => ?_) (fun _ => ?_)
    | with_reducible refine forkp (fun _ => ?_) (fun _ => ?_)
    | with_reducible refine forke (fun _ => ?_) (fun _ _ => ?_)
    | with_reducible refine tail_k fun _ _ _ => ?_
    | with_reducible refine ext_k fun _ _ _ => ?_
    | with_reducible refine need (by first | kernel_rfl | omega | assumption) ?_
    | with_reducible refine st_agg (by kernel_rfl) rfl (by simp only [natV, intV, S3, *]) fun _ _ _ _ => ?_
    | with_reducible refine wpd_quiet_lit (by kernel_rfl) (by kernel_rfl) (by kernel_rfl) ?_
    | simp (maxDischargeDepth := 3) only [↓X, ↓Y, ↓Q, S1, ↓reduceIte, Nat.reduceEqDiff, Nat.reduceAdd, Int.reduceLT, Int.reduceLE, Int.reduceNeg, Int.reduceBEq, Int.reduceBNe, Int.reduceEq, Nat.reduceLeDiff, Nat.reduceMul, Nat.reduceLT, natV, intV, putAt, idxOk, flatP, *]
    | simp (singlePass := true) (maxDischargeDepth := 99) only [*, S2, Nat.reduceLT])
      exact ⟨_, rfl, _, _, rfl, Own.more (o9.1 _ FR) FR, Own.more (o2.1 _ FR) FR⟩
end
end Go.Proofs.Ytbfmabkdggllhaa
