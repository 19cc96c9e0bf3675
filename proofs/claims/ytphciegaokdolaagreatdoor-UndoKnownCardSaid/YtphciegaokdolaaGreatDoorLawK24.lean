
/- The statement UndoKnown. -/
import Derived.Test.YtphciegaokdolaaGreatDoorLawA24
import Derived.Test.YtphciegaokdolaaGreatDoorPureY24
namespace Go.Proofs.YtphciegaokdolaaGreatDoor
set_option linter.unusedSimpArgs false
set_option linter.unusedVariables false
open Go Go.RowKit
set_option maxRecDepth 100000
set_option linter.unusedSectionVars false
set_option maxHeartbeats 2000000
theorem exk_flash : lastS siteEx [srvEx24] flashEx24.steps (worldEx24 :: (runL siteEx [srvEx24] flashEx24.steps (seqF flashEx24 7 4096 0) worldEx24).1) (xsL (seqF flashEx24 7 4096 0)) = [2] ∧ backS siteEx [srvEx24] flashEx24.steps (worldEx24 :: (runL siteEx [srvEx24] flashEx24.steps (seqF flashEx24 7 4096 0) worldEx24).1) (xsL (seqF flashEx24 7 4096 0)) = [⟨6, 1, 0, 0⟩, ⟨3, 1, 0, 0⟩, ⟨6, 1, 0, 0⟩] := ⟨by kernel_rfl, by kernel_rfl⟩
theorem exk_flash_back : backL 0 siteEx [srvEx24] flashEx24 worldEx24 7 = [⟨6, 1, 0, 0⟩, ⟨3, 1, 0, 0⟩, ⟨6, 1, 0, 0⟩] := by
 unfold backL
 rw [if_pos ex24_flash.2, show (7 : Int).toNat = 7 from rfl, exk_flash.2]
theorem exk_flash_last : lastL 0 siteEx [srvEx24] flashEx24 worldEx24 7 = [2] := by
 unfold lastL
 rw [if_pos ex24_flash.2, show (7 : Int).toNat = 7 from rfl, exk_flash.1]
 simp [sortI, intL]
theorem exk_worlds : (worldsQ 0 siteEx [srvEx24] flashEx24 worldEx24 7).2 = true ∧ (worldsQ 0 siteEx [srvEx24] flashEx24 worldEx24 7).1.length = 3 := by
 unfold worldsQ
 rw [exk_flash_back, ex24_flashed]
 exact ⟨by kernel_rfl, by kernel_rfl⟩
theorem exk_worldsE : worldsE 0 siteEx [srvEx24] flashEx24 worldEx24 7 = 0 := by
 unfold worldsE
 rw [if_pos ex24_flash.2, if_pos exk_worlds.1]
theorem exk_worldsL : (worldsL 0 siteEx [srvEx24] flashEx24 worldEx24 7).length = 3 := by
 unfold worldsL
 rw [if_pos ex24_flash.2, if_pos exk_worlds.1, exk_worlds.2]
theorem exk_none : wldE 0 siteEx [srvEx24] moveEx24 worldEx24 0 = 0 ∧ wldE 0 siteEx [srvEx24] moveEx24 worldEx24 2 = 2 := ⟨by kernel_rfl, by kernel_rfl⟩
theorem exk_none_back : backL 0 siteEx [srvEx24] moveEx24 worldEx24 0 = [] := by
 unfold backL
 rw [if_pos exk_none.1, show (0 : Int).toNat = 0 from rfl]
 kernel_rfl
theorem exk_none_last : lastL 0 siteEx [srvEx24] moveEx24 worldEx24 0 = [] := by
 unfold lastL
 rw [if_pos exk_none.1, show (0 : Int).toNat = 0 from rfl, show lastS siteEx [srvEx24] moveEx24.steps (worldEx24 :: (runL siteEx [srvEx24] moveEx24.steps (seqF moveEx24 0 4096 0) worldEx24).1) (xsL (seqF moveEx24 0 4096 0)) = [] by kernel_rfl]
 simp [sortI, intL]
section
variable {w : World} {B : Nat}
/-- A call on the example's site, wish and world, and a plan that is made last. -/
theorem ex_args24 {hv rv v : Value} {u : SiteVs} {w1 w2 w3 w4 : World} {l : List SrvV} (hS : ∀ w', Bl w1.heap.size w1 w' → SiteR w' w1.heap.size u siteEx) (hW : ∀ w', Bl w2.heap.size w2 w' → WishR w' w2.heap.size v l) (hX : ∀ w', Bl w3.heap.size w3 w' → WorldR w' w3.heap.size hv rv worldEx24) (h1 : Bl w1.heap.size w1 w4) (h2 : Bl w2.heap.size w2 w4) (h3 : Bl w3.heap.size w3 w4) : SiteR w4 w4.heap.size u siteEx ∧ WishR w4 w4.heap.size v l ∧ WorldR w4 w4.heap.size hv rv worldEx24 :=
 ⟨(hS w4 h1).up24 h1.size, (hW w4 h2).up24 h2.size, (hX w4 h3).h.more h3.size, (hX w4 h3).r.more h3.size⟩
theorem lawUndoKnown (hT : TabW w) : Ret Tryz.prog 7 #[] w (.bool true) := by
 have hn : Now w := trivial
 have hx : Ext w w := Ext.refl w
 have hT' := fun w' (h : Ext w w') => hT.ext h
 replace hT' : Hid _ := hT'
 (refine callsV_of Tryz.func7 rfl KR KR ?_; rw [Tryz.results7])
 (repeat' first
  | with_reducible first | exact ⟨⟩ | (refine Brg.mk ?_; intros) | refine Two.mk ?_ ?_
  | refine gs ?_
  | refine sx ?_)
 refine call_k lawSite24 ?_
 rintro _ w1 n1 s1 ⟨u1, rfl, hs1⟩
 have hs1' := (hs1.sk (Nat.le_refl _)).2.2.2.2.2.2
 have e1 : Bl w1.heap.size w1 w1 := Bl.refl (Nat.le_refl _)
 clear hs1
 (repeat' first
  | with_reducible first | exact ⟨⟩ | (refine Brg.mk ?_; intros) | refine Two.mk ?_ ?_
  | refine gs ?_
  | refine sx ?_)
 refine call_k lawWish24 ?_
 rintro _ w2 n2 s2 ⟨v2, l2, rfl, hl2, hl2e⟩
 have hl2' := (hl2.sk (Nat.le_refl _)).2.2
 have e2 : Bl w2.heap.size w2 w2 := Bl.refl (Nat.le_refl _)
 clear hl2
 (repeat' first
  | with_reducible first | exact ⟨⟩ | (refine Brg.mk ?_; intros) | refine Two.mk ?_ ?_
  | refine gs ?_
  | refine sx ?_)
 refine call_k lawWorld24 ?_
 rintro _ w3 n3 s3 ⟨hv3, rv3, rfl, hx3⟩
 have hx3' := (hx3.sk (Nat.le_refl _)).2.2.2.2
 have e3 : Bl w3.heap.size w3 w3 := Bl.refl (Nat.le_refl _)
 clear hx3
 (repeat' first
  | with_reducible first | exact ⟨⟩ | (refine Brg.mk ?_; intros) | refine Two.mk ?_ ?_
  | refine gs ?_
  | refine sx ?_)
 refine call_k lawFlash24 ?_
 rintro _ w4 n4 s4 ⟨sv4, av4, vs4, rfl, hp4⟩
 have e4 : Bl w4.heap.size w4 w4 := Bl.refl (Nat.le_refl _)
 have A4 := ex_args24 (w4 := w4) hs1' hl2' hx3' FR FR FR
 (repeat' first
  | with_reducible first | exact ⟨⟩ | (refine Brg.mk ?_; intros) | refine Two.mk ?_ ?_
  | refine gs ?_
  | refine sx ?_)
 refine call_k (undoBack (x := 7) (B := w4.heap.size) (sd := siteEx) (l := l2) (p := flashEx24) (y := worldEx24) (e := 0) (hT'.out _ FR) (Nat.le_refl _) A4.1 A4.2.1 hp4 A4.2.2 (by rw [hl2e]; exact ex24_flash.1)) ?_
 rintro _ w5 n5 s5 ⟨bv, lv, rfl, obv, olv⟩
 rw [hl2e] at obv olv ⊢
 rw [ex24_flash.2]
 rw [exk_flash_back] at obv
 rw [exk_flash_last] at olv
 have obv1 := obv.one
 have olv1 := olv.one
 have e5 : Bl w5.heap.size w5 w5 := Bl.refl (Nat.le_refl _)
 have hbx : Hid (∀ w', Bl w5.heap.size w5 w' → Sl w' w5.heap.size (some 4) 4 bv (([⟨6, 1, 0, 0⟩, ⟨3, 1, 0, 0⟩, ⟨6, 1, 0, 0⟩] : List StepD).map stepV)) := fun w' h => (obv.slN (f := stepC)).bl h
 have hlx : Hid (∀ w', Bl w5.heap.size w5 w' → Sl w' w5.heap.size none 1 lv (([2] : List Int).map intV)) := fun w' h => (olv.sl1 (f := intV)).bl h
 clear obv olv hp4 A4
 (repeat' first
  | with_reducible first | exact ⟨⟩ | (refine Brg.mk ?_; intros) | refine Two.mk ?_ ?_
  | refine gs ?_
  | refine sx ?_)
 refine call_k lawSite24 ?_
 rintro _ w6 n6 s6 ⟨u6, rfl, hs6⟩
 have hs6' := (hs6.sk (Nat.le_refl _)).2.2.2.2.2.2
 have e6 : Bl w6.heap.size w6 w6 := Bl.refl (Nat.le_refl _)
 clear hs6
 (repeat' first
  | with_reducible first | exact ⟨⟩ | (refine Brg.mk ?_; intros) | refine Two.mk ?_ ?_
  | refine gs ?_
  | refine sx ?_)
 refine call_k lawWish24 ?_
 rintro _ w7 n7 s7 ⟨v7, l7, rfl, hl7, hl7e⟩
 have hl7' := (hl7.sk (Nat.le_refl _)).2.2
 have e7 : Bl w7.heap.size w7 w7 := Bl.refl (Nat.le_refl _)
 clear hl7
 (repeat' first
  | with_reducible first | exact ⟨⟩ | (refine Brg.mk ?_; intros) | refine Two.mk ?_ ?_
  | refine gs ?_
  | refine sx ?_)
 refine call_k lawWorld24 ?_
 rintro _ w8 n8 s8 ⟨hv8, rv8, rfl, hx8⟩
 have hx8' := (hx8.sk (Nat.le_refl _)).2.2.2.2
 have e8 : Bl w8.heap.size w8 w8 := Bl.refl (Nat.le_refl _)
 clear hx8
 (repeat' first
  | with_reducible first | exact ⟨⟩ | (refine Brg.mk ?_; intros) | refine Two.mk ?_ ?_
  | refine gs ?_
  | refine sx ?_)
 refine call_k lawMove24 ?_
 rintro _ w9 n9 s9 ⟨sv9, av9, vs9, rfl, hp9⟩
 have e9 : Bl w9.heap.size w9 w9 := Bl.refl (Nat.le_refl _)
 have A9 := ex_args24 (w4 := w9) hs6' hl7' hx8' FR FR FR
 (repeat' first
  | with_reducible first | exact ⟨⟩ | (refine Brg.mk ?_; intros) | refine Two.mk ?_ ?_
  | refine gs ?_
  | refine sx ?_)
 refine call_k (undoBack (x := 0) (B := w9.heap.size) (sd := siteEx) (l := l7) (p := moveEx24) (y := worldEx24) (e := 0) (hT'.out _ FR) (Nat.le_refl _) A9.1 A9.2.1 hp9 A9.2.2 (by rw [hl7e]; exact ex24_move.1)) ?_
 rintro _ w10 n10 s10 ⟨kv, nv, rfl, okv, onv⟩
 rw [hl7e] at okv onv ⊢
 rw [exk_none.1]
 rw [exk_none_back] at okv
 rw [exk_none_last] at onv
 have okv1 := okv.one
 have onv1 := onv.one
 have okvl : lenN kv = 0 := (okv.slN (f := stepC)).len
 have okvs := (okv.slN (f := stepC)).sl
 have okvw := (okv.slN (f := stepC)).wf
 have onvl : lenN nv = 0 := onv.sl1.len
 have onvs := onv.sl1.sl
 have onvw := onv.sl1.wf
 clear okv onv hp9 A9
 (repeat' first
  | with_reducible first | exact ⟨⟩ | (refine Brg.mk ?_; intros) | refine Two.mk ?_ ?_
  | refine gs ?_
  | refine sx ?_)
 refine call_k lawSite24 ?_
 rintro _ w11 n11 s11 ⟨u11, rfl, hs11⟩
 have hs11' := (hs11.sk (Nat.le_refl _)).2.2.2.2.2.2
 have e11 : Bl w11.heap.size w11 w11 := Bl.refl (Nat.le_refl _)
 clear hs11
 (repeat' first
  | with_reducible first | exact ⟨⟩ | (refine Brg.mk ?_; intros) | refine Two.mk ?_ ?_
  | refine gs ?_
  | refine sx ?_)
 refine call_k lawWish24 ?_
 rintro _ w12 n12 s12 ⟨v12, l12, rfl, hl12, hl12e⟩
 have hl12' := (hl12.sk (Nat.le_refl _)).2.2
 have e12 : Bl w12.heap.size w12 w12 := Bl.refl (Nat.le_refl _)
 clear hl12
 (repeat' first
  | with_reducible first | exact ⟨⟩ | (refine Brg.mk ?_; intros) | refine Two.mk ?_ ?_
  | refine gs ?_
  | refine sx ?_)
 refine call_k lawWorld24 ?_
 rintro _ w13 n13 s13 ⟨hv13, rv13, rfl, hx13⟩
 have hx13' := (hx13.sk (Nat.le_refl _)).2.2.2.2
 have e13 : Bl w13.heap.size w13 w13 := Bl.refl (Nat.le_refl _)
 clear hx13
 (repeat' first
  | with_reducible first | exact ⟨⟩ | (refine Brg.mk ?_; intros) | refine Two.mk ?_ ?_
  | refine gs ?_
  | refine sx ?_)
 refine call_k lawMove24 ?_
 rintro _ w14 n14 s14 ⟨sv14, av14, vs14, rfl, hp14⟩
 have e14 : Bl w14.heap.size w14 w14 := Bl.refl (Nat.le_refl _)
 have A14 := ex_args24 (w4 := w14) hs11' hl12' hx13' FR FR FR
 (repeat' first
  | with_reducible first | exact ⟨⟩ | (refine Brg.mk ?_; intros) | refine Two.mk ?_ ?_
  | refine gs ?_
  | refine sx ?_)
 refine call_k (undoBack (x := 2) (B := w14.heap.size) (sd := siteEx) (l := l12) (p := moveEx24) (y := worldEx24) (e := 0) (hT'.out _ FR) (Nat.le_refl _) A14.1 A14.2.1 hp14 A14.2.2 (by rw [hl12e]; exact ex24_move.1)) ?_
 rintro _ w15 n15 s15 ⟨jv, iv, rfl, ojv, oiv⟩
 rw [hl12e, exk_none.2]
 have ojv1 := ojv.one
 have oiv1 := oiv.one
 clear ojv oiv hp14 A14
 (repeat' first
  | with_reducible first | exact ⟨⟩ | (refine Brg.mk ?_; intros) | refine Two.mk ?_ ?_
  | refine gs ?_
  | refine sx ?_)
 refine call_k lawSite24 ?_
 rintro _ w16 n16 s16 ⟨u16, rfl, hs16⟩
 have hs16' := (hs16.sk (Nat.le_refl _)).2.2.2.2.2.2
 have e16 : Bl w16.heap.size w16 w16 := Bl.refl (Nat.le_refl _)
 clear hs16
 (repeat' first
  | with_reducible first | exact ⟨⟩ | (refine Brg.mk ?_; intros) | refine Two.mk ?_ ?_
  | refine gs ?_
  | refine sx ?_)
 refine call_k lawWish24 ?_
 rintro _ w17 n17 s17 ⟨v17, l17, rfl, hl17, hl17e⟩
 have hl17' := (hl17.sk (Nat.le_refl _)).2.2
 have e17 : Bl w17.heap.size w17 w17 := Bl.refl (Nat.le_refl _)
 clear hl17
 (repeat' first
  | with_reducible first | exact ⟨⟩ | (refine Brg.mk ?_; intros) | refine Two.mk ?_ ?_
  | refine gs ?_
  | refine sx ?_)
 refine call_k lawWorld24 ?_
 rintro _ w18 n18 s18 ⟨hv18, rv18, rfl, hx18⟩
 have hx18' := (hx18.sk (Nat.le_refl _)).2.2.2.2
 have e18 : Bl w18.heap.size w18 w18 := Bl.refl (Nat.le_refl _)
 clear hx18
 (repeat' first
  | with_reducible first | exact ⟨⟩ | (refine Brg.mk ?_; intros) | refine Two.mk ?_ ?_
  | refine gs ?_
  | refine sx ?_)
 refine call_k lawFlash24 ?_
 rintro _ w19 n19 s19 ⟨sv19, av19, vs19, rfl, hp19⟩
 have e19 : Bl w19.heap.size w19 w19 := Bl.refl (Nat.le_refl _)
 have A19 := ex_args24 (w4 := w19) hs16' hl17' hx18' FR FR FR
 (repeat' first
  | with_reducible first | exact ⟨⟩ | (refine Brg.mk ?_; intros) | refine Two.mk ?_ ?_
  | refine gs ?_
  | refine sx ?_)
 refine call_k (undoWorlds (x := 7) (B := w19.heap.size) (sd := siteEx) (l := l17) (p := flashEx24) (y := worldEx24) (e := 0) (hT'.out _ FR) (Nat.le_refl _) A19.1 A19.2.1 hp19 A19.2.2 (by rw [hl17e]; exact ex24_flash.1)) ?_
 rintro _ w20 n20 s20 ⟨xv, rfl, us, hu1, hu2, hu3⟩
 rw [hl17e] at hu1 ⊢
 rw [exk_worldsE]
 rw [exk_worldsL] at hu1
 have xv1 := hu2.one
 have c3 : ((3 : Nat) : Int) = 3 := rfl
 have xvl : lenN xv = 3 := by rw [(hu2.slN (f := wC)).len, List.length_map, hu1]
 have xvs := (hu2.slN (f := wC)).sl
 have xvw := (hu2.slN (f := wC)).wf
 clear hu1 hu2 hu3 hp19 A19
 (repeat' first
  | with_reducible first | exact ⟨⟩ | (refine Brg.mk ?_; intros) | refine Two.mk ?_ ?_
  | refine gs ?_
  | refine sx ?_)
 rename_i bs ws ns ks ss qs
 refine ret_k (ref19Same24 (w := ws) (B := w5.heap.size) (B' := ws.heap.size) (a := [⟨6, 1, 0, 0⟩, ⟨3, 1, 0, 0⟩, ⟨6, 1, 0, 0⟩]) (b := [⟨6, 1, 0, 0⟩, ⟨3, 1, 0, 0⟩, ⟨6, 1, 0, 0⟩]) FR (Nat.le_refl _) (hbx.out _ FR) (row_of24 (sz := 4) (l := [[.int .u8 6, intV 1, intV 0, intV 0], [.int .u8 3, intV 1, intV 0, intV 0], [.int .u8 6, intV 1, intV 0, intV 0]]) (ks.2.1 _ FR) rfl rfl (by simp) (by simp))) fun wt nt st => ?_
 rw [decide_eq_true rfl]
 (repeat' first
  | with_reducible first | exact ⟨⟩ | (refine Brg.mk ?_; intros) | refine Two.mk ?_ ?_
  | refine gs ?_
  | refine sx ?_)
 rename_i br wr nr kr sr qr lr
 refine ret_k (ref12Ints (w := wr) (B := w5.heap.size) (B' := wr.heap.size) (a := [2]) (b := [2]) FR (Nat.le_refl _) (hlx.out _ FR) (lr _ FR)) fun wu nu su => ?_
 rw [decide_eq_true rfl]
 (repeat' first
  | with_reducible first | exact ⟨⟩ | (refine Brg.mk ?_; intros) | refine Two.mk ?_ ?_
  | refine gs ?_
  | ((with_reducible refine at_f 9 ?_); refine ret_k (law24live (hT'.out _ FR)) fun _ _ _ => ?_)
  | refine sx ?_)
end
end Go.Proofs.YtphciegaokdolaaGreatDoor
