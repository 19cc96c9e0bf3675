/- The statement WorldChanges. -/
import Derived.Test.YtbfmabkdggllhaaOwn1
namespace Go.Proofs.Ytbfmabkdggllhaa
set_option linter.unusedSimpArgs false
set_option linter.unusedVariables false
open Go Go.RowKit
set_option maxRecDepth 100000
set_option linter.unusedSectionVars false
set_option maxHeartbeats 4000000
/-- Three worlds' rows, each the call's own. -/
def RowsAt (w : World) (L : Nat → Nat) (hvs rvs : Nat → Value) (nH nR : Nat → Nat) : Prop := ∀ k, k < 3 → (∃ hs : List StateD, hs.length = nH k ∧ OwnH w (L k) (hvs k) hs) ∧ (∃ rs : List ReplicaD, rs.length = nR k ∧ OwnP w (L k) (rvs k) rs)
def ApartV (vs : Nat → Value) : Prop := ∀ k k', k < 3 → k' < 3 → k ≠ k' → ∀ b, blockOf (vs k) = some b → ¬ blockOf (vs k') = some b
section
variable {w w' : World} {L : Nat → Nat} {hvs rvs : Nat → Value} {nH nR : Nat → Nat} {b i : Nat}
theorem rows_H (J : RowsAt w L hvs rvs nH nR) (A : ApartV hvs) (hi : i < 3) {hs : List StateD} (hl : hs.length = nH i) (hown : OwnH w' (L i) (hvs i) hs) (hb : blockOf (hvs i) = some b) (hc : Cg b w w') : RowsAt w' L hvs rvs nH nR := by
  intro k hk
  constructor
  · by_cases e : k = i
    · subst e; exact ⟨hs, hl, hown⟩
    · obtain ⟨hs', h1, h2⟩ := (J k hk).1
      exact ⟨hs', h1, h2.chg hc (by rw [← h2.block]; exact A i k hi hk (fun h => e h.symm) b hb)⟩
  · obtain ⟨rs, h1, h2⟩ := (J k hk).2
    obtain ⟨hs', _, h4⟩ := (J i hi).1
    exact ⟨rs, h1, h2.chg hc (by rw [← h2.block]; exact own_ne h4 h2 (by decide) hb)⟩
theorem rows_P (J : RowsAt w L hvs rvs nH nR) (A : ApartV rvs) (hi : i < 3) {rs : List ReplicaD} (hl : rs.length = nR i) (hown : OwnP w' (L i) (rvs i) rs) (hb : blockOf (rvs i) = some b) (hc : Cg b w w') : RowsAt w' L hvs rvs nH nR := by
  intro k hk
  constructor
  · obtain ⟨hs, h1, h2⟩ := (J k hk).1
    obtain ⟨rs', _, h4⟩ := (J i hi).2
    exact ⟨hs, h1, h2.chg hc (by rw [← h2.block]; exact own_ne h4 h2 (by decide) hb)⟩
  · by_cases e : k = i
    · subst e; exact ⟨rs, hl, hown⟩
    · obtain ⟨rs', h1, h2⟩ := (J k hk).2
      exact ⟨rs', h1, h2.chg hc (by rw [← h2.block]; exact A i k hi hk (fun h => e h.symm) b hb)⟩
theorem RowsAt.ext (J : RowsAt w L hvs rvs nH nR) (hx : Ext w w') : RowsAt w' L hvs rvs nH nR := fun k hk =>
  ⟨let ⟨hs, h1, h2⟩ := (J k hk).1; ⟨hs, h1, h2.ext hx⟩, let ⟨rs, h1, h2⟩ := (J k hk).2; ⟨rs, h1, h2.ext hx⟩⟩
end
section
variable {w : World} {B : Nat} {hv rv : Value} {x : WorldD}
theorem lawWorldChanges {r : ReplicaD} {host : Int} {h : StateD} (hB : B ≤ w.heap.size) (hx0 : WorldR w B hv rv x) : Ret Try.prog 9 #[.agg #[hv, rv], replicaV r, intV host, stateV h] w (.bool true) := by
  have hn : Now w := trivial
  have hx : Ext w w := Ext.refl w
  have hx' := hx0.sk hB
  have hX := hx'.2.2.2.2
  have hf := fun w' (h1 : Bl B w w') (h3 : B ≤ w'.heap.size) => few_x h3 (hX w' h1)
  have hfl : fewB site0 [] x = true → Hid (x.hosts.length ≤ 60 ∧ x.replicas.length ≤ 60) := fun h => few_len h
  generalize fewB site0 [] x = fb at hf hfl
  (refine callsV_of Try.func9 rfl (by kernel_rfl) (by kernel_rfl) ?_; rw [Try.results9])
  cases fb
  · clear hfl
    (repeat' first
    | with_reducible refine alloc_k fun _ _ _ _ _ _ => ?_
    | ((with_reducible refine at_row ?_); refine row1_k (by rfl) (by decide) fun _ _ _ _ _ _ _ => ?_)
    | with_reducible refine row_k fun _ _ _ _ _ _ => ?_
    | with_reducible refine fork (fun _ => ?_) (fun _ => ?_)
    | with_reducible refine forkp (fun _ => ?_) (fun _ => ?_)
    | with_reducible refine forke (fun _ => ?_) (fun _ _ => ?_)
    | with_reducible refine tail_k fun _ _ _ => ?_
    | with_reducible refine ext_k fun _ _ _ => ?_
    | with_reducible refine need (by first | kernel_rfl | omega | assumption) ?_
    | with_reducible refine st_agg (by kernel_rfl) rfl (by simp only [natV, intV, S3, *]) fun _ _ _ _ => ?_
    | with_reducible refine wpd_quiet_lit (by kernel_rfl) (by kernel_rfl) (by kernel_rfl) ?_
    | ((with_reducible refine at_f 10 ?_); refine ret_k (hf _ FR FR) fun _ _ _ => ?_)
    | ((with_reducible refine at_f 11 ?_); refine ret_k (live13) fun _ _ _ => ?_)
    | simp (maxDischargeDepth := 3) only [↓X, ↓Y, ↓Q, S1, ↓reduceIte, Nat.reduceEqDiff, Nat.reduceAdd, Int.reduceLT, Int.reduceLE, Int.reduceNeg, Int.reduceBEq, Int.reduceBNe, Int.reduceEq, Nat.reduceLeDiff, Nat.reduceMul, Nat.reduceLT, natV, intV, putAt, idxOk, flatP, *, siteC, siteU0, site0, replicaV, stateV]
    | simp (singlePass := true) (maxDischargeDepth := 99) only [*, S2, Nat.reduceLT, siteC, siteU0, site0, replicaV, stateV])
  · have hlen := hfl rfl
    clear hfl
    (repeat' first
    | with_reducible refine alloc_k fun _ _ _ _ _ _ => ?_
    | ((with_reducible refine at_row ?_); refine row1_k (by rfl) (by decide) fun _ _ _ _ _ _ _ => ?_)
    | with_reducible refine row_k fun _ _ _ _ _ _ => ?_
    | with_reducible refine fork (fun _ => ?_) (fun _ => ?_)
    | with_reducible refine forkp (fun _ => ?_) (fun _ => ?_)
    | with_reducible refine forke (fun _ => ?_) (fun _ _ => ?_)
    | with_reducible refine tail_k fun _ _ _ => ?_
    | with_reducible refine ext_k fun _ _ _ => ?_
    | with_reducible refine need (by first | kernel_rfl | omega | assumption) ?_
    | with_reducible refine st_agg (by kernel_rfl) rfl (by simp only [natV, intV, S3, *]) fun _ _ _ _ => ?_
    | with_reducible refine wpd_quiet_lit (by kernel_rfl) (by kernel_rfl) (by kernel_rfl) ?_
    | ((with_reducible refine at_f 10 ?_); refine ret_k (hf _ FR FR) fun _ _ _ => ?_)
    | simp (maxDischargeDepth := 3) only [↓X, ↓Y, ↓Q, S1, ↓reduceIte, Nat.reduceEqDiff, Nat.reduceAdd, Int.reduceLT, Int.reduceLE, Int.reduceNeg, Int.reduceBEq, Int.reduceBNe, Int.reduceEq, Nat.reduceLeDiff, Nat.reduceMul, Nat.reduceLT, natV, intV, putAt, idxOk, flatP, *, replicaV, stateV]
    | simp (singlePass := true) (maxDischargeDepth := 99) only [*, S2, Nat.reduceLT, replicaV, stateV])
    refine call_k (ref13Copy (B := B) FR (hX _ FR) (by have := hlen.out; omega)) ?_
    rintro _ wo no so oo
    obtain ⟨ho, ro, rfl, xo⟩ := oo.r
    have KO := xo.sk (Nat.le_refl _)
    clear oo xo
    (repeat' first
    | with_reducible refine alloc_k fun _ _ _ _ _ _ => ?_
    | ((with_reducible refine at_row ?_); refine row1_k (by rfl) (by decide) fun _ _ _ _ _ _ _ => ?_)
    | with_reducible refine row_k fun _ _ _ _ _ _ => ?_
    | with_reducible refine fork (fun _ => ?_) (fun _ => ?_)
    | with_reducible refine forkp (fun _ => ?_) (fun _ => ?_)
    | with_reducible refine forke (fun _ => ?_) (fun _ _ => ?_)
    | with_reducible refine tail_k fun _ _ _ => ?_
    | with_reducible refine ext_k fun _ _ _ => ?_
    | with_reducible refine need (by first | kernel_rfl | omega | assumption) ?_
    | with_reducible refine st_agg (by kernel_rfl) rfl (by simp only [natV, intV, S3, *]) fun _ _ _ _ => ?_
    | with_reducible refine wpd_quiet_lit (by kernel_rfl) (by kernel_rfl) (by kernel_rfl) ?_
    | simp (maxDischargeDepth := 3) only [↓X, ↓Y, ↓Q, S1, ↓reduceIte, Nat.reduceEqDiff, Nat.reduceAdd, Int.reduceLT, Int.reduceLE, Int.reduceNeg, Int.reduceBEq, Int.reduceBNe, Int.reduceEq, Nat.reduceLeDiff, Nat.reduceMul, Nat.reduceLT, natV, intV, putAt, idxOk, flatP, *, replicaV, stateV]
    | simp (singlePass := true) (maxDischargeDepth := 99) only [*, S2, Nat.reduceLT, replicaV, stateV])
    rename_i b4 v4 u4 k4 t4 q4 b5 v5 u5 k5 t5 q5 b7 v7 u7 k7 t7 q7 vf uf tf b9 v9 n9 k9 s9 q9 w1 n1 k1 s1
    have hb1 : Bl w1.heap.size w1 w1 := Bl.refl (Nat.le_refl _)
    refine call_k (worldStart (r := r) (B := B) FR (hX _ FR) (by have := hlen.out; omega) (by have := hlen.out; omega)) ?_
    rintro _ wa na sa ⟨ua, rfl, oa⟩
    obtain ⟨ha, ra, rfl, oah, oar⟩ := oa
    have AH := oah.o
    have AR := oar.o
    have KA : WorldK wa wa.heap.size ha ra (startW x r) := (WorldR.mk (oah.slN (f := stateC)) (oar.slN (f := replC))).sk (Nat.le_refl _)
    have IA : Hid ((∀ b, blockOf ha = some b → b < wa.heap.size) ∧ (∀ b, blockOf ra = some b → b < wa.heap.size)) := ⟨fun b hb => (oah.lt b (by rw [← oah.block]; exact hb)).2, fun b hb => (oar.lt b (by rw [← oar.block]; exact hb)).2⟩
    clear oah oar
    (repeat' first
    | with_reducible refine alloc_k fun _ _ _ _ _ _ => ?_
    | ((with_reducible refine at_row ?_); refine row1_k (by rfl) (by decide) fun _ _ _ _ _ _ _ => ?_)
    | with_reducible refine row_k fun _ _ _ _ _ _ => ?_
    | with_reducible refine fork (fun _ => ?_) (fun _ => ?_)
    | with_reducible refine forkp (fun _ => ?_) (fun _ => ?_)
    | with_reducible refine forke (fun _ => ?_) (fun _ _ => ?_)
    | with_reducible refine tail_k fun _ _ _ => ?_
    | with_reducible refine ext_k fun _ _ _ => ?_
    | with_reducible refine need (by first | kernel_rfl | omega | assumption) ?_
    | with_reducible refine st_agg (by kernel_rfl) rfl (by simp only [natV, intV, S3, *]) fun _ _ _ _ => ?_
    | with_reducible refine wpd_quiet_lit (by kernel_rfl) (by kernel_rfl) (by kernel_rfl) ?_
    | simp (maxDischargeDepth := 3) only [↓X, ↓Y, ↓Q, S1, ↓reduceIte, Nat.reduceEqDiff, Nat.reduceAdd, Int.reduceLT, Int.reduceLE, Int.reduceNeg, Int.reduceBEq, Int.reduceBNe, Int.reduceEq, Nat.reduceLeDiff, Nat.reduceMul, Nat.reduceLT, natV, intV, putAt, idxOk, flatP, *, replicaV, stateV]
    | simp (singlePass := true) (maxDischargeDepth := 99) only [*, S2, Nat.reduceLT, replicaV, stateV])
    refine call_k (ref13Start (r := r) (B := wo.heap.size) FR (KO.2.2.2.2 _ FR) (by have := hlen.out; omega) (by have := hlen.out; omega)) ?_
    rintro _ wb nb sb ⟨ub, rfl, ob⟩
    obtain ⟨hb, rb, rfl, xb⟩ := ob.r
    have KB := xb.sk (Nat.le_refl _)
    clear ob xb
    (repeat' first
    | with_reducible refine alloc_k fun _ _ _ _ _ _ => ?_
    | ((with_reducible refine at_row ?_); refine row1_k (by rfl) (by decide) fun _ _ _ _ _ _ _ => ?_)
    | with_reducible refine row_k fun _ _ _ _ _ _ => ?_
    | with_reducible refine fork (fun _ => ?_) (fun _ => ?_)
    | with_reducible refine forkp (fun _ => ?_) (fun _ => ?_)
    | with_reducible refine forke (fun _ => ?_) (fun _ _ => ?_)
    | with_reducible refine tail_k fun _ _ _ => ?_
    | with_reducible refine ext_k fun _ _ _ => ?_
    | with_reducible refine need (by first | kernel_rfl | omega | assumption) ?_
    | with_reducible refine st_agg (by kernel_rfl) rfl (by simp only [natV, intV, S3, *]) fun _ _ _ _ => ?_
    | with_reducible refine wpd_quiet_lit (by kernel_rfl) (by kernel_rfl) (by kernel_rfl) ?_
    | ((with_reducible refine at_f 18 ?_); refine ret_k (ref13Same (B := wa.heap.size) (B' := wb.heap.size) FR FR (KA.2.2.2.2 _ FR) (KB.2.2.2.2 _ FR)) fun _ _ _ => ?_)
    | ((with_reducible refine at_f 18 ?_); refine ret_k (ref13Same (B := B) (B' := wo.heap.size) FR FR (hX _ FR) (KO.2.2.2.2 _ FR)) fun _ _ _ => ?_)
    | simp (maxDischargeDepth := 3) only [↓X, ↓Y, ↓Q, S1, ↓reduceIte, Nat.reduceEqDiff, Nat.reduceAdd, Int.reduceLT, Int.reduceLE, Int.reduceNeg, Int.reduceBEq, Int.reduceBNe, Int.reduceEq, Nat.reduceLeDiff, Nat.reduceMul, Nat.reduceLT, natV, intV, putAt, idxOk, flatP, *, replicaV, stateV]
    | simp (singlePass := true) (maxDischargeDepth := 99) only [*, S2, Nat.reduceLT, replicaV, stateV])
    refine call_k (worldStop (r := r) (B := B) FR (hX _ FR) (by have := hlen.out; omega) (by have := hlen.out; omega)) ?_
    rintro _ wc nc sc ⟨uc, rfl, oc⟩
    obtain ⟨hc, rc, rfl, och, ocr⟩ := oc
    have och := och.more (show wa.heap.size ≤ _ from FR)
    have ocr := ocr.more (show wa.heap.size ≤ _ from FR)
    have CH := och.o
    have CR := ocr.o
    have KC : WorldK wc wc.heap.size hc rc (stopW x r) := (WorldR.mk (och.slN (f := stateC)) (ocr.slN (f := replC))).sk (Nat.le_refl _)
    have IC : Hid ((∀ b, blockOf hc = some b → b < wc.heap.size) ∧ (∀ b, blockOf rc = some b → b < wc.heap.size)) := ⟨fun b hb => (och.lt b (by rw [← och.block]; exact hb)).2, fun b hb => (ocr.lt b (by rw [← ocr.block]; exact hb)).2⟩
    clear och ocr
    (repeat' first
    | with_reducible refine alloc_k fun _ _ _ _ _ _ => ?_
    | ((with_reducible refine at_row ?_); refine row1_k (by rfl) (by decide) fun _ _ _ _ _ _ _ => ?_)
    | with_reducible refine row_k fun _ _ _ _ _ _ => ?_
    | with_reducible refine fork (fun _ => ?_) (fun _ => ?_)
    | with_reducible refine forkp (fun _ => ?_) (fun _ => ?_)
    | with_reducible refine forke (fun _ => ?_) (fun _ _ => ?_)
    | with_reducible refine tail_k fun _ _ _ => ?_
    | with_reducible refine ext_k fun _ _ _ => ?_
    | with_reducible refine need (by first | kernel_rfl | omega | assumption) ?_
    | with_reducible refine st_agg (by kernel_rfl) rfl (by simp only [natV, intV, S3, *]) fun _ _ _ _ => ?_
    | with_reducible refine wpd_quiet_lit (by kernel_rfl) (by kernel_rfl) (by kernel_rfl) ?_
    | simp (maxDischargeDepth := 3) only [↓X, ↓Y, ↓Q, S1, ↓reduceIte, Nat.reduceEqDiff, Nat.reduceAdd, Int.reduceLT, Int.reduceLE, Int.reduceNeg, Int.reduceBEq, Int.reduceBNe, Int.reduceEq, Nat.reduceLeDiff, Nat.reduceMul, Nat.reduceLT, natV, intV, putAt, idxOk, flatP, *, replicaV, stateV]
    | simp (singlePass := true) (maxDischargeDepth := 99) only [*, S2, Nat.reduceLT, replicaV, stateV])
    refine call_k (ref13Stop (r := r) (B := wo.heap.size) FR (KO.2.2.2.2 _ FR) (by have := hlen.out; omega) (by have := hlen.out; omega)) ?_
    rintro _ wd nd sd ⟨ud, rfl, od⟩
    obtain ⟨hd, rd, rfl, xd⟩ := od.r
    have KD := xd.sk (Nat.le_refl _)
    clear od xd
    (repeat' first
    | with_reducible refine alloc_k fun _ _ _ _ _ _ => ?_
    | ((with_reducible refine at_row ?_); refine row1_k (by rfl) (by decide) fun _ _ _ _ _ _ _ => ?_)
    | with_reducible refine row_k fun _ _ _ _ _ _ => ?_
    | with_reducible refine fork (fun _ => ?_) (fun _ => ?_)
    | with_reducible refine forkp (fun _ => ?_) (fun _ => ?_)
    | with_reducible refine forke (fun _ => ?_) (fun _ _ => ?_)
    | with_reducible refine tail_k fun _ _ _ => ?_
    | with_reducible refine ext_k fun _ _ _ => ?_
    | with_reducible refine need (by first | kernel_rfl | omega | assumption) ?_
    | with_reducible refine st_agg (by kernel_rfl) rfl (by simp only [natV, intV, S3, *]) fun _ _ _ _ => ?_
    | with_reducible refine wpd_quiet_lit (by kernel_rfl) (by kernel_rfl) (by kernel_rfl) ?_
    | ((with_reducible refine at_q 18 ?_); refine qret_k (fun _ _ _ => ref13Same (B := wc.heap.size) (B' := wd.heap.size) FR FR (KC.2.2.2.2 _ FR) (KD.2.2.2.2 _ FR)) ?_)
    | ((with_reducible refine at_q 18 ?_); refine qret_k (fun _ _ _ => ref13Same (B := wb.heap.size) (B' := wd.heap.size) FR FR (KB.2.2.2.2 _ FR) (KD.2.2.2.2 _ FR)) ?_)
    | ((with_reducible refine at_q 34 ?_); refine qret_k (fun _ _ _ => worldSame (B := wa.heap.size) (B' := wc.heap.size) FR FR (KA.2.2.2.2 _ FR) (KC.2.2.2.2 _ FR)) ?_)
    | simp (maxDischargeDepth := 3) only [↓X, ↓Y, ↓Q, S1, ↓reduceIte, Nat.reduceEqDiff, Nat.reduceAdd, Int.reduceLT, Int.reduceLE, Int.reduceNeg, Int.reduceBEq, Int.reduceBNe, Int.reduceEq, Nat.reduceLeDiff, Nat.reduceMul, Nat.reduceLT, natV, intV, putAt, idxOk, flatP, *, replicaV, stateV]
    | simp (singlePass := true) (maxDischargeDepth := 99) only [*, S2, Nat.reduceLT, replicaV, stateV])
    clear KB KD KC
    refine call_k (worldSet (host := host) (h := h) (B := B) FR (hX _ FR) (by have := hlen.out; omega) (by have := hlen.out; omega)) ?_
    rintro _ we ne se ⟨ue, rfl, oe⟩
    obtain ⟨he, re, rfl, oeh, oer⟩ := oe
    have oeh := oeh.more (show wc.heap.size ≤ _ from FR)
    have oer := oer.more (show wc.heap.size ≤ _ from FR)
    have EH := oeh.o
    have ER := oer.o
    have KE : WorldK we we.heap.size he re (setW x host h) := (WorldR.mk (oeh.slN (f := stateC)) (oer.slN (f := replC))).sk (Nat.le_refl _)
    clear oeh oer
    (repeat' first
    | with_reducible refine alloc_k fun _ _ _ _ _ _ => ?_
    | ((with_reducible refine at_row ?_); refine row1_k (by rfl) (by decide) fun _ _ _ _ _ _ _ => ?_)
    | with_reducible refine row_k fun _ _ _ _ _ _ => ?_
    | with_reducible refine fork (fun _ => ?_) (fun _ => ?_)
    | with_reducible refine forkp (fun _ => ?_) (fun _ => ?_)
    | with_reducible refine forke (fun _ => ?_) (fun _ _ => ?_)
    | with_reducible refine tail_k fun _ _ _ => ?_
    | with_reducible refine ext_k fun _ _ _ => ?_
    | with_reducible refine need (by first | kernel_rfl | omega | assumption) ?_
    | with_reducible refine st_agg (by kernel_rfl) rfl (by simp only [natV, intV, S3, *]) fun _ _ _ _ => ?_
    | with_reducible refine wpd_quiet_lit (by kernel_rfl) (by kernel_rfl) (by kernel_rfl) ?_
    | simp (maxDischargeDepth := 3) only [↓X, ↓Y, ↓Q, S1, ↓reduceIte, Nat.reduceEqDiff, Nat.reduceAdd, Int.reduceLT, Int.reduceLE, Int.reduceNeg, Int.reduceBEq, Int.reduceBNe, Int.reduceEq, Nat.reduceLeDiff, Nat.reduceMul, Nat.reduceLT, natV, intV, putAt, idxOk, flatP, *, replicaV, stateV]
    | simp (singlePass := true) (maxDischargeDepth := 99) only [*, S2, Nat.reduceLT, replicaV, stateV])
    refine call_k (ref13Set (host := host) (h := h) (B := wo.heap.size) FR (KO.2.2.2.2 _ FR) (by have := hlen.out; omega) (by have := hlen.out; omega)) ?_
    rintro _ wg ng sg ⟨ug, rfl, og⟩
    obtain ⟨hg, rg, rfl, xg⟩ := og.r
    have KG := xg.sk (Nat.le_refl _)
    clear og xg
    (repeat' first
    | with_reducible refine alloc_k fun _ _ _ _ _ _ => ?_
    | ((with_reducible refine at_row ?_); refine row1_k (by rfl) (by decide) fun _ _ _ _ _ _ _ => ?_)
    | with_reducible refine row_k fun _ _ _ _ _ _ => ?_
    | with_reducible refine fork (fun _ => ?_) (fun _ => ?_)
    | with_reducible refine forkp (fun _ => ?_) (fun _ => ?_)
    | with_reducible refine forke (fun _ => ?_) (fun _ _ => ?_)
    | with_reducible refine tail_k fun _ _ _ => ?_
    | with_reducible refine ext_k fun _ _ _ => ?_
    | with_reducible refine need (by first | kernel_rfl | omega | assumption) ?_
    | with_reducible refine st_agg (by kernel_rfl) rfl (by simp only [natV, intV, S3, *]) fun _ _ _ _ => ?_
    | with_reducible refine wpd_quiet_lit (by kernel_rfl) (by kernel_rfl) (by kernel_rfl) ?_
    | ((with_reducible refine at_q 18 ?_); refine qret_k (fun _ _ _ => ref13Same (B := we.heap.size) (B' := wg.heap.size) FR FR (KE.2.2.2.2 _ FR) (KG.2.2.2.2 _ FR)) ?_)
    | ((with_reducible refine at_q 18 ?_); refine qret_k (fun _ _ _ => ref13Same (B := wo.heap.size) (B' := wg.heap.size) FR FR (KO.2.2.2.2 _ FR) (KG.2.2.2.2 _ FR)) ?_)
    | ((with_reducible refine at_q 34 ?_); refine qret_k (fun _ _ _ => worldSame (B := B) (B' := we.heap.size) FR FR (hX _ FR) (KE.2.2.2.2 _ FR)) ?_)
    | ((with_reducible refine at_q 18 ?_); refine qret_k (fun _ _ _ => ref13Same (B := B) (B' := wo.heap.size) FR FR (hX _ FR) (KO.2.2.2.2 _ FR)) ?_)
    | simp (maxDischargeDepth := 3) only [↓X, ↓Y, ↓Q, S1, ↓reduceIte, Nat.reduceEqDiff, Nat.reduceAdd, Int.reduceLT, Int.reduceLE, Int.reduceNeg, Int.reduceBEq, Int.reduceBNe, Int.reduceEq, Nat.reduceLeDiff, Nat.reduceMul, Nat.reduceLT, natV, intV, putAt, idxOk, flatP, *, replicaV, stateV]
    | simp (singlePass := true) (maxDischargeDepth := 99) only [*, S2, Nat.reduceLT, replicaV, stateV])
    clear KE KG KA
    rename_i b18 w18 n18 k18 s18 q18
    have hle1 : w1.heap.size ≤ wa.heap.size := FR
    have hle2 : w1.heap.size ≤ wc.heap.size := FR
    have hle3 : wa.heap.size ≤ wc.heap.size := FR
    obtain ⟨hvs, hv0, hv1, hv2⟩ : ∃ f : Nat → Value, f 0 = ha ∧ f 1 = hc ∧ f 2 = he := ⟨fun k => match k with | 0 => ha | 1 => hc | _ => he, rfl, rfl, rfl⟩
    obtain ⟨rvs, rv0, rv1, rv2⟩ : ∃ f : Nat → Value, f 0 = ra ∧ f 1 = rc ∧ f 2 = re := ⟨fun k => match k with | 0 => ra | 1 => rc | _ => re, rfl, rfl, rfl⟩
    obtain ⟨nH, nh0, nh1, nh2⟩ : ∃ f : Nat → Nat, f 0 = (startW x r).hosts.length ∧ f 1 = (stopW x r).hosts.length ∧ f 2 = (setW x host h).hosts.length := ⟨fun k => match k with | 0 => _ | 1 => _ | _ => _, rfl, rfl, rfl⟩
    obtain ⟨nR, nr0, nr1, nr2⟩ : ∃ f : Nat → Nat, f 0 = (startW x r).replicas.length ∧ f 1 = (stopW x r).replicas.length ∧ f 2 = (setW x host h).replicas.length := ⟨fun k => match k with | 0 => _ | 1 => _ | _ => _, rfl, rfl, rfl⟩
    obtain ⟨L, l0, l1, l2⟩ : ∃ f : Nat → Nat, f 0 = w1.heap.size ∧ f 1 = wa.heap.size ∧ f 2 = wc.heap.size := ⟨fun k => match k with | 0 => _ | 1 => _ | _ => _, rfl, rfl, rfl⟩
    have J0 : RowsAt w18 L hvs rvs nH nR := by
      intro k hk
      rcases k with _ | _ | _ | k
      · rw [hv0, rv0, nh0, nr0, l0]; exact ⟨⟨_, rfl, AH.1 _ FR⟩, ⟨_, rfl, AR.1 _ FR⟩⟩
      · rw [hv1, rv1, nh1, nr1, l1]; exact ⟨⟨_, rfl, CH.1 _ FR⟩, ⟨_, rfl, CR.1 _ FR⟩⟩
      · rw [hv2, rv2, nh2, nr2, l2]; exact ⟨⟨_, rfl, EH.1 _ FR⟩, ⟨_, rfl, ER.1 _ FR⟩⟩
      · omega
    have hL : ∀ k, k < 3 → w1.heap.size ≤ L k := by
      intro k hk
      rcases k with _ | _ | _ | k
      · rw [l0]; exact Nat.le_refl _
      · rw [l1]; exact hle1
      · rw [l2]; exact hle2
      · omega
    have hA : ApartV hvs := by
      have ac := fun b (h : blockOf ha = some b) => CH.2.2.1 b (IA.out.1 b h)
      have ae := fun b (h : blockOf ha = some b) => EH.2.2.1 b (Nat.lt_of_lt_of_le (IA.out.1 b h) hle3)
      have ce := fun b (h : blockOf hc = some b) => EH.2.2.1 b (IC.out.1 b h)
      intro k k' hk hk' hne b hb hb'
      rcases k with _ | _ | _ | k <;> rcases k' with _ | _ | _ | k' <;> first | omega | skip
      all_goals (simp only [Nat.zero_add, Nat.reduceAdd, hv0, hv1, hv2] at hb hb')
      · exact ac b hb hb'
      · exact ae b hb hb'
      · exact ac b hb' hb
      · exact ce b hb hb'
      · exact ae b hb' hb
      · exact ce b hb' hb
    have hR : ApartV rvs := by
      have ac := fun b (h : blockOf ra = some b) => CR.2.2.1 b (IA.out.2 b h)
      have ae := fun b (h : blockOf ra = some b) => ER.2.2.1 b (Nat.lt_of_lt_of_le (IA.out.2 b h) hle3)
      have ce := fun b (h : blockOf rc = some b) => ER.2.2.1 b (IC.out.2 b h)
      intro k k' hk hk' hne b hb hb'
      rcases k with _ | _ | _ | k <;> rcases k' with _ | _ | _ | k' <;> first | omega | skip
      all_goals (simp only [Nat.zero_add, Nat.reduceAdd, rv0, rv1, rv2] at hb hb')
      · exact ac b hb hb'
      · exact ae b hb hb'
      · exact ac b hb' hb
      · exact ce b hb hb'
      · exact ae b hb' hb
      · exact ce b hb' hb
    have hrd : ∀ w', Kp b18 w18 w' → ∀ k, k < 3 → w'.cell? ⟨b18, k * 2, none⟩ = some (hvs k) ∧ w'.cell? ⟨b18, k * 2 + 1, none⟩ = some (rvs k) := by
      intro w' hw k hk
      have hcell := k18.1 w' hw
      rcases k with _ | _ | _ | k
      · exact ⟨by rw [hcell, hv0]; rfl, by rw [hcell, rv0]; rfl⟩
      · exact ⟨by rw [hcell, hv1]; rfl, by rw [hcell, rv1]; rfl⟩
      · exact ⟨by rw [hcell, hv2]; rfl, by rw [hcell, rv2]; rfl⟩
      · omega
    have hnH : ∀ k, k < 3 → nH k ≤ 1000 ∧ nR k ≤ 1000 := by
      have e1 := len_startW (r := r) hlen.out.1 hlen.out.2
      have e2 := len_stopW (r := r) hlen.out.1 hlen.out.2
      have e3 : (setW x host h).hosts.length ≤ 60 ∧ (setW x host h).replicas.length ≤ 60 := by
        have := hlen.out
        unfold setW
        split
        · simp only [List.length_set]; exact this
        · simp [noW]
      intro k hk
      rcases k with _ | _ | _ | k
      · rw [nh0, nr0]; omega
      · rw [nh1, nr1]; omega
      · rw [nh2, nr2]; omega
      · omega
    have hkp0 : Kp b18 w18 w18 := k18.2.2.1
    have hbl0 : Bl w1.heap.size w1 w18 := FR
    have hblk18 := k18.2.1
    have pure4 : Hid (RowsAt w18 L hvs rvs nH nR ∧ ApartV hvs ∧ ApartV rvs) := ⟨J0, hA, hR⟩
    clear AH AR CH CR EH ER J0 hA hR hv0 hv1 hv2 rv0 rv1 rv2 nh0 nh1 nh2 nr0 nr1 nr2 l0 l1 l2 k18 hb1
    refine loop_g 3 (fun g0 k g w' => g 19 = .int .i64 k ∧ (g 4 = g0 4 ∧ g 9 = g0 9 ∧ g 18 = g0 18) ∧ Hid (RowsAt w' L hvs rvs nH nR ∧ Bl w1.heap.size w1 w' ∧ Kp b18 w18 w')) (by kernel_rfl) ?_ ?_ ?_
    · (repeat' first
    | with_reducible refine alloc_k fun _ _ _ _ _ _ => ?_
    | ((with_reducible refine at_row ?_); refine row1_k (by rfl) (by decide) fun _ _ _ _ _ _ _ => ?_)
    | with_reducible refine row_k fun _ _ _ _ _ _ => ?_
    | with_reducible refine fork (fun _ => ?_) (fun _ => ?_)
    | with_reducible refine forkp (fun _ => ?_) (fun _ => ?_)
    | with_reducible refine forke (fun _ => ?_) (fun _ _ => ?_)
    | with_reducible refine tail_k fun _ _ _ => ?_
    | with_reducible refine ext_k fun _ _ _ => ?_
    | with_reducible refine need (by first | kernel_rfl | omega | assumption) ?_
    | with_reducible refine st_agg (by kernel_rfl) rfl (by simp only [natV, intV, S3, *]) fun _ _ _ _ => ?_
    | with_reducible refine wpd_quiet_lit (by kernel_rfl) (by kernel_rfl) (by kernel_rfl) ?_
    | simp (maxDischargeDepth := 3) only [↓X, ↓Y, ↓Q, S1, ↓reduceIte, Nat.reduceEqDiff, Nat.reduceAdd, Int.reduceLT, Int.reduceLE, Int.reduceNeg, Int.reduceBEq, Int.reduceBNe, Int.reduceEq, Nat.reduceLeDiff, Nat.reduceMul, Nat.reduceLT, natV, intV, putAt, idxOk, flatP, *]
    | simp (singlePass := true) (maxDischargeDepth := 99) only [*, S2, Nat.reduceLT])
      exact pure4.out.1
    · rintro k m g wk hk hlt nk ⟨hi, hf, hJ⟩
      simp (maxDischargeDepth := 3) only [U, ↓reduceIte, Nat.reduceEqDiff, *] at hf
      have hwk : IntKind.i64.wrap ((k : Int) + 1) = ((k + 1 : Nat) : Int) := by rw [wrap_i64_id] <;> omega
      (repeat' first
    | with_reducible refine alloc_k fun _ _ _ _ _ _ => ?_
    | ((with_reducible refine at_row ?_); refine row1_k (by rfl) (by decide) fun _ _ _ _ _ _ _ => ?_)
    | with_reducible refine row_k fun _ _ _ _ _ _ => ?_
    | with_reducible refine fork (fun _ => ?_) (fun _ => ?_)
    | with_reducible refine forkp (fun _ => ?_) (fun _ => ?_)
    | with_reducible refine forke (fun _ => ?_) (fun _ _ => ?_)
    | with_reducible refine tail_k fun _ _ _ => ?_
    | with_reducible refine ext_k fun _ _ _ => ?_
    | with_reducible refine need (by first | kernel_rfl | omega | assumption) ?_
    | with_reducible refine st_agg (by kernel_rfl) rfl (by simp only [natV, intV, S3, *]) fun _ _ _ _ => ?_
    | with_reducible refine wpd_quiet_lit (by kernel_rfl) (by kernel_rfl) (by kernel_rfl) ?_
    | simp (maxDischargeDepth := 3) only [↓X, ↓Y, ↓Q, S1, ↓reduceIte, Nat.reduceEqDiff, Nat.reduceAdd, Int.reduceLT, Int.reduceLE, Int.reduceNeg, Int.reduceBEq, Int.reduceBNe, Int.reduceEq, Nat.reduceLeDiff, Nat.reduceMul, Nat.reduceLT, natV, intV, putAt, idxOk, flatP, *]
    | simp (singlePass := true) (maxDischargeDepth := 99) only [*, S2, Nat.reduceLT])
      refine loop_g (nH k) (fun g0 j g w' => g 20 = .int .i64 j ∧ (g 4 = g0 4 ∧ g 9 = g0 9 ∧ g 18 = g0 18 ∧ g 19 = g0 19) ∧ Hid (RowsAt w' L hvs rvs nH nR ∧ Bl w1.heap.size w1 w' ∧ Kp b18 w18 w')) (by kernel_rfl) ?_ ?_ ?_
      · (repeat' first
    | with_reducible refine alloc_k fun _ _ _ _ _ _ => ?_
    | ((with_reducible refine at_row ?_); refine row1_k (by rfl) (by decide) fun _ _ _ _ _ _ _ => ?_)
    | with_reducible refine row_k fun _ _ _ _ _ _ => ?_
    | with_reducible refine fork (fun _ => ?_) (fun _ => ?_)
    | with_reducible refine forkp (fun _ => ?_) (fun _ => ?_)
    | with_reducible refine forke (fun _ => ?_) (fun _ _ => ?_)
    | with_reducible refine tail_k fun _ _ _ => ?_
    | with_reducible refine ext_k fun _ _ _ => ?_
    | with_reducible refine need (by first | kernel_rfl | omega | assumption) ?_
    | with_reducible refine st_agg (by kernel_rfl) rfl (by simp only [natV, intV, S3, *]) fun _ _ _ _ => ?_
    | with_reducible refine wpd_quiet_lit (by kernel_rfl) (by kernel_rfl) (by kernel_rfl) ?_
    | simp (maxDischargeDepth := 3) only [↓X, ↓Y, ↓Q, S1, ↓reduceIte, Nat.reduceEqDiff, Nat.reduceAdd, Int.reduceLT, Int.reduceLE, Int.reduceNeg, Int.reduceBEq, Int.reduceBNe, Int.reduceEq, Nat.reduceLeDiff, Nat.reduceMul, Nat.reduceLT, natV, intV, putAt, idxOk, flatP, *]
    | simp (singlePass := true) (maxDischargeDepth := 99) only [*, S2, Nat.reduceLT])
      · rintro j mj gj wj hj hjt nj ⟨hij, hfj, hJj⟩
        simp (maxDischargeDepth := 3) only [U, ↓reduceIte, Nat.reduceEqDiff, *] at hfj
        obtain ⟨Jj, hblj, hkpj⟩ := hJj.out
        obtain ⟨hs, hsl, ho⟩ := (Jj k hlt).1
        have hjl : j < hs.length := by omega
        obtain ⟨c0, c1⟩ := hrd wj hkpj k hlt
        obtain ⟨f1, f2, f3, f4, f5, f6, f7, f8⟩ := (ho.slN (f := stateC)).v (Nat.le_refl _)
        have hfv := (ho.slN (f := stateC)).fv
        have hread : rdv none wj (addF (elemAt (hvs k) 2 j) 1) = some (.int .i64 hs[j].firmware) := hfv.2 wj f8 j hjl 1 (by decide)
        have hptr := hfv.1 j hjl
        rw [hsl] at f3
        have hb18 := hblk18 _ hkpj
        have hwj : IntKind.i64.wrap ((j : Int) + 1) = ((j + 1 : Nat) : Int) := by
          have := hnH k hlt
          rw [wrap_i64_id] <;> omega
        clear f6 f7 hfv
        (repeat' first
    | with_reducible refine alloc_k fun _ _ _ _ _ _ => ?_
    | ((with_reducible refine at_row ?_); refine row1_k (by rfl) (by decide) fun _ _ _ _ _ _ _ => ?_)
    | with_reducible refine row_k fun _ _ _ _ _ _ => ?_
    | with_reducible refine fork (fun _ => ?_) (fun _ => ?_)
    | with_reducible refine forkp (fun _ => ?_) (fun _ => ?_)
    | with_reducible refine forke (fun _ => ?_) (fun _ _ => ?_)
    | with_reducible refine tail_k fun _ _ _ => ?_
    | with_reducible refine ext_k fun _ _ _ => ?_
    | with_reducible refine need (by first | kernel_rfl | omega | assumption) ?_
    | with_reducible refine st_agg (by kernel_rfl) rfl (by simp only [natV, intV, S3, *]) fun _ _ _ _ => ?_
    | with_reducible refine wpd_quiet_lit (by kernel_rfl) (by kernel_rfl) (by kernel_rfl) ?_
    | simp (maxDischargeDepth := 3) only [↓X, ↓Y, ↓Q, S1, ↓reduceIte, Nat.reduceEqDiff, Nat.reduceAdd, Int.reduceLT, Int.reduceLE, Int.reduceNeg, Int.reduceBEq, Int.reduceBNe, Int.reduceEq, Nat.reduceLeDiff, Nat.reduceMul, Nat.reduceLT, natV, intV, putAt, idxOk, flatP, *]
    | simp (singlePass := true) (maxDischargeDepth := 99) only [*, S2, Nat.reduceLT])
        refine own_set1 (i := j) (off := 1) (by kernel_rfl) ho (by simpa using hjl) (by decide) rfl fun b' w9 n9 e9 hb9 hl9 hown9 s9 c9 => ?_
        have hnew : OwnH w9 (L k) (hvs k) (hs.set j ⟨hs[j].phase, IntKind.i64.wrap (hs[j].firmware + 1)⟩) := by
          have h := hown9
          simp only [List.getElem_map, stateC, List.set_cons_succ, List.set_cons_zero] at h
          show Own w9 (L k) _ 2 (hvs k) ((hs.set j ⟨hs[j].phase, IntKind.i64.wrap (hs[j].firmware + 1)⟩).map stateC)
          rw [List.map_set]
          exact h
        have J9 := rows_H Jj pure4.out.2.1 hlt (by rw [List.length_set]; exact hsl) hnew e9 c9
        have hbl9 : Bl w1.heap.size w1 w9 := hblj.chg c9 (Nat.le_trans (hL k hlt) hb9)
        have hne9 : ¬ b18 = b' := fun e => ho.ne hb18 (by decide) (by rw [← ho.block, e9, e])
        have hkp9 : Kp b18 w18 w9 := hkpj.chg c9 hne9
        clear e9 hown9 hnew ho hread hptr Jj hblj hkpj c0 c1 hb18
        (repeat' first
    | with_reducible refine alloc_k fun _ _ _ _ _ _ => ?_
    | ((with_reducible refine at_row ?_); refine row1_k (by rfl) (by decide) fun _ _ _ _ _ _ _ => ?_)
    | with_reducible refine row_k fun _ _ _ _ _ _ => ?_
    | with_reducible refine fork (fun _ => ?_) (fun _ => ?_)
    | with_reducible refine forkp (fun _ => ?_) (fun _ => ?_)
    | with_reducible refine forke (fun _ => ?_) (fun _ _ => ?_)
    | with_reducible refine tail_k fun _ _ _ => ?_
    | with_reducible refine ext_k fun _ _ _ => ?_
    | with_reducible refine need (by first | kernel_rfl | omega | assumption) ?_
    | with_reducible refine st_agg (by kernel_rfl) rfl (by simp only [natV, intV, S3, *]) fun _ _ _ _ => ?_
    | with_reducible refine wpd_quiet_lit (by kernel_rfl) (by kernel_rfl) (by kernel_rfl) ?_
    | simp (maxDischargeDepth := 3) only [↓X, ↓Y, ↓Q, S1, ↓reduceIte, Nat.reduceEqDiff, Nat.reduceAdd, Int.reduceLT, Int.reduceLE, Int.reduceNeg, Int.reduceBEq, Int.reduceBNe, Int.reduceEq, Nat.reduceLeDiff, Nat.reduceMul, Nat.reduceLT, natV, intV, putAt, idxOk, flatP, *]
    | simp (singlePass := true) (maxDischargeDepth := 99) only [*, S2, Nat.reduceLT])
        refine next_g hj hjt ?_
        (repeat' first
    | with_reducible refine alloc_k fun _ _ _ _ _ _ => ?_
    | ((with_reducible refine at_row ?_); refine row1_k (by rfl) (by decide) fun _ _ _ _ _ _ _ => ?_)
    | with_reducible refine row_k fun _ _ _ _ _ _ => ?_
    | with_reducible refine fork (fun _ => ?_) (fun _ => ?_)
    | with_reducible refine forkp (fun _ => ?_) (fun _ => ?_)
    | with_reducible refine forke (fun _ => ?_) (fun _ _ => ?_)
    | with_reducible refine tail_k fun _ _ _ => ?_
    | with_reducible refine ext_k fun _ _ _ => ?_
    | with_reducible refine need (by first | kernel_rfl | omega | assumption) ?_
    | with_reducible refine st_agg (by kernel_rfl) rfl (by simp only [natV, intV, S3, *]) fun _ _ _ _ => ?_
    | with_reducible refine wpd_quiet_lit (by kernel_rfl) (by kernel_rfl) (by kernel_rfl) ?_
    | simp (maxDischargeDepth := 3) only [↓X, ↓Y, ↓Q, S1, ↓reduceIte, Nat.reduceEqDiff, Nat.reduceAdd, Int.reduceLT, Int.reduceLE, Int.reduceNeg, Int.reduceBEq, Int.reduceBNe, Int.reduceEq, Nat.reduceLeDiff, Nat.reduceMul, Nat.reduceLT, natV, intV, putAt, idxOk, flatP, *]
    | simp (singlePass := true) (maxDischargeDepth := 99) only [*, S2, Nat.reduceLT])
        trivial
      · rintro gj wj nj ⟨hij, hfj, hJj⟩
        simp (maxDischargeDepth := 3) only [U, ↓reduceIte, Nat.reduceEqDiff, *] at hfj
        obtain ⟨Jj, hblj, hkpj⟩ := hJj.out
        obtain ⟨hs, hsl, ho⟩ := (Jj k hlt).1
        obtain ⟨c0, c1⟩ := hrd wj hkpj k hlt
        obtain ⟨f1, f2, f3, f4, f5, f6, f7, f8⟩ := (ho.slN (f := stateC)).v (Nat.le_refl _)
        rw [hsl] at f3
        have hnl : ¬ nH k < nH k := Nat.lt_irrefl _
        clear f6 f7 ho
        (repeat' first
    | with_reducible refine alloc_k fun _ _ _ _ _ _ => ?_
    | ((with_reducible refine at_row ?_); refine row1_k (by rfl) (by decide) fun _ _ _ _ _ _ _ => ?_)
    | with_reducible refine row_k fun _ _ _ _ _ _ => ?_
    | with_reducible refine fork (fun _ => ?_) (fun _ => ?_)
    | with_reducible refine forkp (fun _ => ?_) (fun _ => ?_)
    | with_reducible refine forke (fun _ => ?_) (fun _ _ => ?_)
    | with_reducible refine tail_k fun _ _ _ => ?_
    | with_reducible refine ext_k fun _ _ _ => ?_
    | with_reducible refine need (by first | kernel_rfl | omega | assumption) ?_
    | with_reducible refine st_agg (by kernel_rfl) rfl (by simp only [natV, intV, S3, *]) fun _ _ _ _ => ?_
    | with_reducible refine wpd_quiet_lit (by kernel_rfl) (by kernel_rfl) (by kernel_rfl) ?_
    | simp (maxDischargeDepth := 3) only [↓X, ↓Y, ↓Q, S1, ↓reduceIte, Nat.reduceEqDiff, Nat.reduceAdd, Int.reduceLT, Int.reduceLE, Int.reduceNeg, Int.reduceBEq, Int.reduceBNe, Int.reduceEq, Nat.reduceLeDiff, Nat.reduceMul, Nat.reduceLT, natV, intV, putAt, idxOk, flatP, *]
    | simp (singlePass := true) (maxDischargeDepth := 99) only [*, S2, Nat.reduceLT])
        clear hJ
        have hJ := hJj
        clear hJj Jj hblj hkpj hs hsl c0 c1 f1 f2 f3 f4 f5 f8 hnl hij hi
        refine loop_g (nR k) (fun g0 j g w' => g 21 = .int .i64 j ∧ (g 4 = g0 4 ∧ g 9 = g0 9 ∧ g 18 = g0 18 ∧ g 19 = g0 19) ∧ Hid (RowsAt w' L hvs rvs nH nR ∧ Bl w1.heap.size w1 w' ∧ Kp b18 w18 w')) (by kernel_rfl) ?_ ?_ ?_
        · (repeat' first
    | with_reducible refine alloc_k fun _ _ _ _ _ _ => ?_
    | ((with_reducible refine at_row ?_); refine row1_k (by rfl) (by decide) fun _ _ _ _ _ _ _ => ?_)
    | with_reducible refine row_k fun _ _ _ _ _ _ => ?_
    | with_reducible refine fork (fun _ => ?_) (fun _ => ?_)
    | with_reducible refine forkp (fun _ => ?_) (fun _ => ?_)
    | with_reducible refine forke (fun _ => ?_) (fun _ _ => ?_)
    | with_reducible refine tail_k fun _ _ _ => ?_
    | with_reducible refine ext_k fun _ _ _ => ?_
    | with_reducible refine need (by first | kernel_rfl | omega | assumption) ?_
    | with_reducible refine st_agg (by kernel_rfl) rfl (by simp only [natV, intV, S3, *]) fun _ _ _ _ => ?_
    | with_reducible refine wpd_quiet_lit (by kernel_rfl) (by kernel_rfl) (by kernel_rfl) ?_
    | simp (maxDischargeDepth := 3) only [↓X, ↓Y, ↓Q, S1, ↓reduceIte, Nat.reduceEqDiff, Nat.reduceAdd, Int.reduceLT, Int.reduceLE, Int.reduceNeg, Int.reduceBEq, Int.reduceBNe, Int.reduceEq, Nat.reduceLeDiff, Nat.reduceMul, Nat.reduceLT, natV, intV, putAt, idxOk, flatP, *]
    | simp (singlePass := true) (maxDischargeDepth := 99) only [*, S2, Nat.reduceLT])
        · rintro j mj gj wj hj hjt nj ⟨hij, hfj, hJj⟩
          simp (maxDischargeDepth := 3) only [U, ↓reduceIte, Nat.reduceEqDiff, *] at hfj
          obtain ⟨Jj, hblj, hkpj⟩ := hJj.out
          obtain ⟨hs, hsl, ho⟩ := (Jj k hlt).2
          have hjl : j < hs.length := by omega
          obtain ⟨c0, c1⟩ := hrd wj hkpj k hlt
          obtain ⟨f1, f2, f3, f4, f5, f6, f7, f8⟩ := (ho.slN (f := replC)).v (Nat.le_refl _)
          have hfv := (ho.slN (f := replC)).fv
          have hread : rdv none wj (addF (elemAt (rvs k) 2 j) 1) = some (.int .i64 hs[j].host) := hfv.2 wj f8 j hjl 1 (by decide)
          have hptr := hfv.1 j hjl
          rw [hsl] at f3
          have hb18 := hblk18 _ hkpj
          have hwj : IntKind.i64.wrap ((j : Int) + 1) = ((j + 1 : Nat) : Int) := by
            have := hnH k hlt
            rw [wrap_i64_id] <;> omega
          clear f6 f7 hfv
          (repeat' first
    | with_reducible refine alloc_k fun _ _ _ _ _ _ => ?_
    | ((with_reducible refine at_row ?_); refine row1_k (by rfl) (by decide) fun _ _ _ _ _ _ _ => ?_)
    | with_reducible refine row_k fun _ _ _ _ _ _ => ?_
    | with_reducible refine fork (fun _ => ?_) (fun _ => ?_)
    | with_reducible refine forkp (fun _ => ?_) (fun _ => ?_)
    | with_reducible refine forke (fun _ => ?_) (fun _ _ => ?_)
    | with_reducible refine tail_k fun _ _ _ => ?_
    | with_reducible refine ext_k fun _ _ _ => ?_
    | with_reducible refine need (by first | kernel_rfl | omega | assumption) ?_
    | with_reducible refine st_agg (by kernel_rfl) rfl (by simp only [natV, intV, S3, *]) fun _ _ _ _ => ?_
    | with_reducible refine wpd_quiet_lit (by kernel_rfl) (by kernel_rfl) (by kernel_rfl) ?_
    | simp (maxDischargeDepth := 3) only [↓X, ↓Y, ↓Q, S1, ↓reduceIte, Nat.reduceEqDiff, Nat.reduceAdd, Int.reduceLT, Int.reduceLE, Int.reduceNeg, Int.reduceBEq, Int.reduceBNe, Int.reduceEq, Nat.reduceLeDiff, Nat.reduceMul, Nat.reduceLT, natV, intV, putAt, idxOk, flatP, *]
    | simp (singlePass := true) (maxDischargeDepth := 99) only [*, S2, Nat.reduceLT])
          refine own_set1 (i := j) (off := 1) (by kernel_rfl) ho (by simpa using hjl) (by decide) rfl fun b' w9 n9 e9 hb9 hl9 hown9 s9 c9 => ?_
          have hnew : OwnP w9 (L k) (rvs k) (hs.set j ⟨hs[j].service, IntKind.i64.wrap (hs[j].host + 1)⟩) := by
            have h := hown9
            simp only [List.getElem_map, replC, List.set_cons_succ, List.set_cons_zero] at h
            show Own w9 (L k) _ 2 (rvs k) ((hs.set j ⟨hs[j].service, IntKind.i64.wrap (hs[j].host + 1)⟩).map replC)
            rw [List.map_set]
            exact h
          have J9 := rows_P Jj pure4.out.2.2 hlt (by rw [List.length_set]; exact hsl) hnew e9 c9
          have hbl9 : Bl w1.heap.size w1 w9 := hblj.chg c9 (Nat.le_trans (hL k hlt) hb9)
          have hne9 : ¬ b18 = b' := fun e => ho.ne hb18 (by decide) (by rw [← ho.block, e9, e])
          have hkp9 : Kp b18 w18 w9 := hkpj.chg c9 hne9
          clear e9 hown9 hnew ho hread hptr Jj hblj hkpj c0 c1 hb18
          (repeat' first
    | with_reducible refine alloc_k fun _ _ _ _ _ _ => ?_
    | ((with_reducible refine at_row ?_); refine row1_k (by rfl) (by decide) fun _ _ _ _ _ _ _ => ?_)
    | with_reducible refine row_k fun _ _ _ _ _ _ => ?_
    | with_reducible refine fork (fun _ => ?_) (fun _ => ?_)
    | with_reducible refine forkp (fun _ => ?_) (fun _ => ?_)
    | with_reducible refine forke (fun _ => ?_) (fun _ _ => ?_)
    | with_reducible refine tail_k fun _ _ _ => ?_
    | with_reducible refine ext_k fun _ _ _ => ?_
    | with_reducible refine need (by first | kernel_rfl | omega | assumption) ?_
    | with_reducible refine st_agg (by kernel_rfl) rfl (by simp only [natV, intV, S3, *]) fun _ _ _ _ => ?_
    | with_reducible refine wpd_quiet_lit (by kernel_rfl) (by kernel_rfl) (by kernel_rfl) ?_
    | simp (maxDischargeDepth := 3) only [↓X, ↓Y, ↓Q, S1, ↓reduceIte, Nat.reduceEqDiff, Nat.reduceAdd, Int.reduceLT, Int.reduceLE, Int.reduceNeg, Int.reduceBEq, Int.reduceBNe, Int.reduceEq, Nat.reduceLeDiff, Nat.reduceMul, Nat.reduceLT, natV, intV, putAt, idxOk, flatP, *]
    | simp (singlePass := true) (maxDischargeDepth := 99) only [*, S2, Nat.reduceLT])
          refine next_g hj hjt ?_
          (repeat' first
    | with_reducible refine alloc_k fun _ _ _ _ _ _ => ?_
    | ((with_reducible refine at_row ?_); refine row1_k (by rfl) (by decide) fun _ _ _ _ _ _ _ => ?_)
    | with_reducible refine row_k fun _ _ _ _ _ _ => ?_
    | with_reducible refine fork (fun _ => ?_) (fun _ => ?_)
    | with_reducible refine forkp (fun _ => ?_) (fun _ => ?_)
    | with_reducible refine forke (fun _ => ?_) (fun _ _ => ?_)
    | with_reducible refine tail_k fun _ _ _ => ?_
    | with_reducible refine ext_k fun _ _ _ => ?_
    | with_reducible refine need (by first | kernel_rfl | omega | assumption) ?_
    | with_reducible refine st_agg (by kernel_rfl) rfl (by simp only [natV, intV, S3, *]) fun _ _ _ _ => ?_
    | with_reducible refine wpd_quiet_lit (by kernel_rfl) (by kernel_rfl) (by kernel_rfl) ?_
    | simp (maxDischargeDepth := 3) only [↓X, ↓Y, ↓Q, S1, ↓reduceIte, Nat.reduceEqDiff, Nat.reduceAdd, Int.reduceLT, Int.reduceLE, Int.reduceNeg, Int.reduceBEq, Int.reduceBNe, Int.reduceEq, Nat.reduceLeDiff, Nat.reduceMul, Nat.reduceLT, natV, intV, putAt, idxOk, flatP, *]
    | simp (singlePass := true) (maxDischargeDepth := 99) only [*, S2, Nat.reduceLT])
          trivial
        · rintro gj wj nj ⟨hij, hfj, hJj⟩
          simp (maxDischargeDepth := 3) only [U, ↓reduceIte, Nat.reduceEqDiff, *] at hfj
          obtain ⟨Jj, hblj, hkpj⟩ := hJj.out
          obtain ⟨hs, hsl, ho⟩ := (Jj k hlt).2
          obtain ⟨c0, c1⟩ := hrd wj hkpj k hlt
          obtain ⟨f1, f2, f3, f4, f5, f6, f7, f8⟩ := (ho.slN (f := replC)).v (Nat.le_refl _)
          rw [hsl] at f3
          have hnl : ¬ nR k < nR k := Nat.lt_irrefl _
          clear f6 f7 ho
          (repeat' first
    | with_reducible refine alloc_k fun _ _ _ _ _ _ => ?_
    | ((with_reducible refine at_row ?_); refine row1_k (by rfl) (by decide) fun _ _ _ _ _ _ _ => ?_)
    | with_reducible refine row_k fun _ _ _ _ _ _ => ?_
    | with_reducible refine fork (fun _ => ?_) (fun _ => ?_)
    | with_reducible refine forkp (fun _ => ?_) (fun _ => ?_)
    | with_reducible refine forke (fun _ => ?_) (fun _ _ => ?_)
    | with_reducible refine tail_k fun _ _ _ => ?_
    | with_reducible refine ext_k fun _ _ _ => ?_
    | with_reducible refine need (by first | kernel_rfl | omega | assumption) ?_
    | with_reducible refine st_agg (by kernel_rfl) rfl (by simp only [natV, intV, S3, *]) fun _ _ _ _ => ?_
    | with_reducible refine wpd_quiet_lit (by kernel_rfl) (by kernel_rfl) (by kernel_rfl) ?_
    | simp (maxDischargeDepth := 3) only [↓X, ↓Y, ↓Q, S1, ↓reduceIte, Nat.reduceEqDiff, Nat.reduceAdd, Int.reduceLT, Int.reduceLE, Int.reduceNeg, Int.reduceBEq, Int.reduceBNe, Int.reduceEq, Nat.reduceLeDiff, Nat.reduceMul, Nat.reduceLT, natV, intV, putAt, idxOk, flatP, *]
    | simp (singlePass := true) (maxDischargeDepth := 99) only [*, S2, Nat.reduceLT])
          refine next_g hk hlt ?_
          (repeat' first
    | with_reducible refine alloc_k fun _ _ _ _ _ _ => ?_
    | ((with_reducible refine at_row ?_); refine row1_k (by rfl) (by decide) fun _ _ _ _ _ _ _ => ?_)
    | with_reducible refine row_k fun _ _ _ _ _ _ => ?_
    | with_reducible refine fork (fun _ => ?_) (fun _ => ?_)
    | with_reducible refine forkp (fun _ => ?_) (fun _ => ?_)
    | with_reducible refine forke (fun _ => ?_) (fun _ _ => ?_)
    | with_reducible refine tail_k fun _ _ _ => ?_
    | with_reducible refine ext_k fun _ _ _ => ?_
    | with_reducible refine need (by first | kernel_rfl | omega | assumption) ?_
    | with_reducible refine st_agg (by kernel_rfl) rfl (by simp only [natV, intV, S3, *]) fun _ _ _ _ => ?_
    | with_reducible refine wpd_quiet_lit (by kernel_rfl) (by kernel_rfl) (by kernel_rfl) ?_
    | simp (maxDischargeDepth := 3) only [↓X, ↓Y, ↓Q, S1, ↓reduceIte, Nat.reduceEqDiff, Nat.reduceAdd, Int.reduceLT, Int.reduceLE, Int.reduceNeg, Int.reduceBEq, Int.reduceBNe, Int.reduceEq, Nat.reduceLeDiff, Nat.reduceMul, Nat.reduceLT, natV, intV, putAt, idxOk, flatP, *]
    | simp (singlePass := true) (maxDischargeDepth := 99) only [*, S2, Nat.reduceLT])
          trivial
    · rintro g wk nk ⟨hi, hf, hJ⟩
      simp (maxDischargeDepth := 3) only [U, ↓reduceIte, Nat.reduceEqDiff, *] at hf
      obtain ⟨Jk, hbl, hkp⟩ := hJ.out
      have sa1 := sa_of hbl.2
      clear Jk
      (repeat' first
    | with_reducible refine alloc_k fun _ _ _ _ _ _ => ?_
    | ((with_reducible refine at_row ?_); refine row1_k (by rfl) (by decide) fun _ _ _ _ _ _ _ => ?_)
    | with_reducible refine row_k fun _ _ _ _ _ _ => ?_
    | with_reducible refine fork (fun _ => ?_) (fun _ => ?_)
    | with_reducible refine forkp (fun _ => ?_) (fun _ => ?_)
    | with_reducible refine forke (fun _ => ?_) (fun _ _ => ?_)
    | with_reducible refine tail_k fun _ _ _ => ?_
    | with_reducible refine ext_k fun _ _ _ => ?_
    | with_reducible refine need (by first | kernel_rfl | omega | assumption) ?_
    | with_reducible refine st_agg (by kernel_rfl) rfl (by simp only [natV, intV, S3, *]) fun _ _ _ _ => ?_
    | with_reducible refine wpd_quiet_lit (by kernel_rfl) (by kernel_rfl) (by kernel_rfl) ?_
    | ((with_reducible refine at_f 18 ?_); refine ret_k (ref13Same (B := B) (B' := wo.heap.size) FR FR (hX _ FR) (KO.2.2.2.2 _ FR)) fun _ _ _ => ?_)
    | ((with_reducible refine at_f 11 ?_); refine ret_k (live13) fun _ _ _ => ?_)
    | simp (maxDischargeDepth := 3) only [↓X, ↓Y, ↓Q, S1, ↓reduceIte, Nat.reduceEqDiff, Nat.reduceAdd, Int.reduceLT, Int.reduceLE, Int.reduceNeg, Int.reduceBEq, Int.reduceBNe, Int.reduceEq, Nat.reduceLeDiff, Nat.reduceMul, Nat.reduceLT, natV, intV, putAt, idxOk, flatP, *]
    | simp (singlePass := true) (maxDischargeDepth := 99) only [*, S2, Nat.reduceLT])
end
end Go.Proofs.Ytbfmabkdggllhaa
