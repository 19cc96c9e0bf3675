
/- The statements on layer 24: the examples. -/
import Derived.Test.YtphciegaokdolaaGreatDoorPureL24
import Derived.Test.YtphciegaokdolaaGreatDoorFew24
namespace Go.Proofs.YtphciegaokdolaaGreatDoor
set_option linter.unusedSimpArgs false
set_option linter.unusedVariables false
open Go Go.RowKit
set_option maxRecDepth 100000
set_option linter.unusedSectionVars false
set_option maxHeartbeats 2000000
theorem ex24_backL : backL 0 siteEx [srvEx24] moveEx24 worldEx24 3 = [⟨1, 0, 0, 0⟩, ⟨2, 1, 0, 0⟩] := by
 unfold backL
 rw [if_pos ex24_move.2, show (3 : Int).toNat = 3 from rfl, ex24_back.2]
theorem ex24_lastL : lastL 0 siteEx [srvEx24] moveEx24 worldEx24 3 = [] := by
 unfold lastL
 rw [if_pos ex24_move.2, show (3 : Int).toNat = 3 from rfl, ex24_back.1]
 simp [sortI, intL]
theorem ex24_left : leftW 0 siteEx [srvEx24] flashEx24 worldEx24 7 = ⟨[⟨0, 0⟩, ⟨0, 5⟩, ⟨0, 0⟩], [⟨0, 0⟩]⟩ := by
 unfold leftW
 rw [if_pos ex24_flash.2, ex24_flashed]
 rfl
section
variable {w : World} {B : Nat}
theorem law24live (hT : TabW w) : Ret Tryz.prog 9 #[] w (.bool true) := by
 have hn : Now w := trivial
 have hx : Ext w w := Ext.refl w
 have hT' := fun w' (h : Ext w w') => hT.ext h
 replace hT' : Hid _ := hT'
 (refine callsV_of Tryz.func9 rfl KR KR ?_; rw [Tryz.results9])
 (repeat' first
  | with_reducible first | exact ⟨⟩ | (refine Brg.mk ?_; intros) | refine Two.mk ?_ ?_
  | refine gs ?_
  | refine sx ?_)
 refine call_k lawSite24 ?_
 rintro _ w1 n1 s1 ⟨u1, rfl, hs1⟩
 have hs1' := (hs1.sk (Nat.le_refl _)).2.2.2.2.2.2
 have e1 : Bl w1.heap.size w1 w1 := Bl.refl (Nat.le_refl _)
 (repeat' first
  | with_reducible first | exact ⟨⟩ | (refine Brg.mk ?_; intros) | refine Two.mk ?_ ?_
  | refine gs ?_
  | refine sx ?_)
 refine call_k lawWish24 ?_
 rintro _ w2 n2 s2 ⟨v2, l2, rfl, hl2, hl2e⟩
 have hl2' := (hl2.sk (Nat.le_refl _)).2.2
 have e2 : Bl w2.heap.size w2 w2 := Bl.refl (Nat.le_refl _)
 (repeat' first
  | with_reducible first | exact ⟨⟩ | (refine Brg.mk ?_; intros) | refine Two.mk ?_ ?_
  | refine gs ?_
  | refine sx ?_)
 refine call_k lawWorld24 ?_
 rintro _ w3 n3 s3 ⟨hv3, rv3, rfl, hx3⟩
 have hx3' := (hx3.sk (Nat.le_refl _)).2.2.2.2
 have e3 : Bl w3.heap.size w3 w3 := Bl.refl (Nat.le_refl _)
 (repeat' first
  | with_reducible first | exact ⟨⟩ | (refine Brg.mk ?_; intros) | refine Two.mk ?_ ?_
  | refine gs ?_
  | refine sx ?_)
 refine call_k lawMove24 ?_
 rintro _ w4 n4 s4 ⟨sv4, av4, vs4, rfl, hp4⟩
 have e4 : Bl w4.heap.size w4 w4 := Bl.refl (Nat.le_refl _)
 have hS4 : SiteR w4 w1.heap.size u1 siteEx := hs1' _ FR
 have hW4 : WishR w4 w2.heap.size v2 l2 := hl2' _ FR
 have hX4 : WorldR w4 w3.heap.size hv3 rv3 worldEx24 := hx3' _ FR
 have hz1 : w1.heap.size ≤ w4.heap.size := FR
 have hz2 : w2.heap.size ≤ w4.heap.size := FR
 have hz3 : w3.heap.size ≤ w4.heap.size := FR
 (repeat' first
  | with_reducible first | exact ⟨⟩ | (refine Brg.mk ?_; intros) | refine Two.mk ?_ ?_
  | refine gs ?_
  | refine sx ?_)
 refine call_k (undoBack (x := 3) (B := w4.heap.size) (sd := siteEx) (l := l2) (p := moveEx24) (y := worldEx24) (e := 0) (hT'.out _ FR) (Nat.le_refl _) (hS4.up24 hz1) (hW4.up24 hz2) hp4 ⟨hX4.h.more hz3, hX4.r.more hz3⟩ (by rw [hl2e]; exact ex24_move.1)) ?_
 rintro _ w5 n5 s5 ⟨bv, lv, rfl, obv, olv⟩
 rw [hl2e] at obv olv ⊢
 rw [ex24_move.2]
 rw [ex24_backL] at obv
 rw [ex24_lastL] at olv
 have obv1 := obv.one
 have olv1 := olv.one
 have olvl : lenN lv = 0 := olv.sl1.len
 have olvs := olv.sl1.sl
 have olvw := olv.sl1.wf
 have kb := (obv.slN (f := stepC)).k (Nat.le_refl _)
 have e5 : Bl w5.heap.size w5 w5 := Bl.refl (Nat.le_refl _)
 have e45 : Bl w4.heap.size w4 w5 := FR
 have hbx : Hid (∀ w', Bl w5.heap.size w5 w' → Sl w' w5.heap.size (some 4) 4 bv ([⟨1, 0, 0, 0⟩, ⟨2, 1, 0, 0⟩].map stepV)) := fun w' h => (obv.slN (f := stepC)).bl h
 clear obv olv hx3 hp4 hs1 hl2 hS4 hW4 hX4
 (repeat' first
  | with_reducible first | exact ⟨⟩ | (refine Brg.mk ?_; intros) | refine Two.mk ?_ ?_
  | refine gs ?_
  | refine sx ?_)
 refine call_k lawSite24 ?_
 rintro _ w6 n6 s6 ⟨u6, rfl, hs6⟩
 have hs6' := (hs6.sk (Nat.le_refl _)).2.2.2.2.2.2
 have e6 : Bl w6.heap.size w6 w6 := Bl.refl (Nat.le_refl _)
 clear hs6
 (repeat' first
  | with_reducible first | exact ⟨⟩ | (refine Brg.mk ?_; intros) | refine Two.mk ?_ ?_
  | refine gs ?_
  | refine sx ?_)
 refine call_k lawWish24 ?_
 rintro _ w7 n7 s7 ⟨v7, l7, rfl, hl7, hl7e⟩
 have hl7' := (hl7.sk (Nat.le_refl _)).2.2
 have e7 : Bl w7.heap.size w7 w7 := Bl.refl (Nat.le_refl _)
 clear hl7
 (repeat' first
  | with_reducible first | exact ⟨⟩ | (refine Brg.mk ?_; intros) | refine Two.mk ?_ ?_
  | refine gs ?_
  | refine sx ?_)
 refine call_k lawWorld24 ?_
 rintro _ w8 n8 s8 ⟨hv8, rv8, rfl, hx8⟩
 have hx8' := (hx8.sk (Nat.le_refl _)).2.2.2.2
 have e8 : Bl w8.heap.size w8 w8 := Bl.refl (Nat.le_refl _)
 clear hx8
 (repeat' first
  | with_reducible first | exact ⟨⟩ | (refine Brg.mk ?_; intros) | refine Two.mk ?_ ?_
  | refine gs ?_
  | refine sx ?_)
 refine call_k lawFlash24 ?_
 rintro _ w9 n9 s9 ⟨sv9, av9, vs9, rfl, hp9⟩
 have e9 : Bl w9.heap.size w9 w9 := Bl.refl (Nat.le_refl _)
 have hS9 : SiteR w9 w6.heap.size u6 siteEx := hs6' _ FR
 have hW9 : WishR w9 w7.heap.size v7 l7 := hl7' _ FR
 have hX9 : WorldR w9 w8.heap.size hv8 rv8 worldEx24 := hx8' _ FR
 have hz6 : w6.heap.size ≤ w9.heap.size := FR
 have hz7 : w7.heap.size ≤ w9.heap.size := FR
 have hz8 : w8.heap.size ≤ w9.heap.size := FR
 (repeat' first
  | with_reducible first | exact ⟨⟩ | (refine Brg.mk ?_; intros) | refine Two.mk ?_ ?_
  | refine gs ?_
  | refine sx ?_)
 refine call_k (undoLeft (x := 7) (B := w9.heap.size) (sd := siteEx) (l := l7) (p := flashEx24) (y := worldEx24) (e := 0) (hT'.out _ FR) (Nat.le_refl _) (hS9.up24 hz6) (hW9.up24 hz7) hp9 ⟨hX9.h.more hz8, hX9.r.more hz8⟩ (by rw [hl7e]; exact ex24_flash.1)) ?_
 rintro _ wa na sa ⟨_, rfl, ha, ra, rfl, oha, ora⟩
 rw [hl7e] at oha ora ⊢
 rw [ex24_flash.2]
 rw [ex24_left] at oha ora
 have oha1 := oha.one
 have ora1 := ora.one
 have KA : SlK wa wa.heap.size 2 (some 2) ha ([⟨0, 0⟩, ⟨0, 5⟩, ⟨0, 0⟩] : List StateD) stateV := (oha.slN (f := stateC)).k (Nat.le_refl _)
 have hrd : ∀ w', Bl wa.heap.size wa w' → rdv (some 2) w' (elemAt ha 2 1) = some (.agg #[.int .u8 0, .int .i64 5]) := fun w' h => KA.2.2.2.2.2.1 w' h 1 (by decide)
 have t1 : Int.toNat 1 = 1 := rfl
 have c3 : ((3 : Nat) : Int) = 3 := rfl
 have ea : Bl wa.heap.size wa wa := Bl.refl (Nat.le_refl _)
 clear oha ora hp9 hS9 hW9 hX9
 (repeat' first
  | with_reducible first | exact ⟨⟩ | (refine Brg.mk ?_; intros) | refine Two.mk ?_ ?_
  | refine gs ?_
  | refine sx ?_)
 rename_i bs ws ns ks ss qs
 refine ret_k (ref19Same24 (w := ws) (B := w5.heap.size) (B' := ws.heap.size) (a := [⟨1, 0, 0, 0⟩, ⟨2, 1, 0, 0⟩]) (b := [⟨1, 0, 0, 0⟩, ⟨2, 1, 0, 0⟩]) FR (Nat.le_refl _) (hbx.out _ FR) (row_of24 (sz := 4) (l := [[.int .u8 1, intV 0, intV 0, intV 0], [.int .u8 2, intV 1, intV 0, intV 0]]) (ks.2.1 _ FR) rfl rfl (by simp) (by simp))) fun wt nt st => ?_
 rw [decide_eq_true rfl]
 (repeat' first
  | with_reducible first | exact ⟨⟩ | (refine Brg.mk ?_; intros) | refine Two.mk ?_ ?_
  | refine gs ?_
  | simp (maxDischargeDepth := 3) only [↓X, ↓Y, ↓Q, S1, ↓reduceIte, Nat.reduceEqDiff, Nat.reduceAdd, Int.reduceLT, Int.reduceLE, Int.reduceNeg, Int.reduceBEq, Int.reduceBNe, Int.reduceEq, Nat.reduceLeDiff, Nat.reduceMul, Nat.reduceLT, *, stateV, stateC]
  | simp (singlePass := true) (maxDischargeDepth := 99) only [*, S2, Nat.reduceLT, stateV, stateC])
end
end Go.Proofs.YtphciegaokdolaaGreatDoor
