/- The statements on layer 24: the examples. -/
import Derived.Test.YtphciegaokdolaaGreatDoorOwn1
import Derived.Test.YtphciegaokdolaaGreatDoorFew24
import Derived.Test.YtphciegaokdolaaGreatDoorPureY24
import Derived.Test.YtphciegaokdolaaGreatDoorRef21
namespace Go.Proofs.YtphciegaokdolaaGreatDoor
set_option linter.unusedSimpArgs false
set_option linter.unusedVariables false
open Go Go.RowKit
set_option maxRecDepth 100000
set_option linter.unusedSectionVars false
set_option maxHeartbeats 2000000
theorem sxLawA241{p q:Prop}(hq:q)(h:p=q:=by first|(simp(maxDischargeDepth:=3) only[↓X,↓Y,↓Q,S1,↓reduceIte,Nat.reduceEqDiff,Nat.reduceAdd,Int.reduceLT,Int.reduceLE,Int.reduceNeg,Int.reduceBEq,Int.reduceBNe,Int.reduceEq,Nat.reduceLeDiff,Nat.reduceMul,Nat.reduceLT, *,stepV,stepC];try exact rfl)|(simp(singlePass:=true) (maxDischargeDepth:=99) only[*,S2,Nat.reduceLT,stepV,stepC];try exact rfl)):p:=h▸hq
theorem ex24_backL:backL 0 siteEx [srvEx24] moveEx24 worldEx24 3=[⟨1,0,0,0⟩,⟨2,1,0,0⟩]:=by
 unfold backL
 rw[if_pos ex24_move.2,show(3:Int).toNat=3 from rfl,ex24_back.2]
theorem ex24_lastL:lastL 0 siteEx [srvEx24] moveEx24 worldEx24 3=[]:=by
 unfold lastL
 rw[if_pos ex24_move.2,show(3:Int).toNat=3 from rfl,ex24_back.1]
 simp[sortI,intL]
theorem ex24_left:leftW 0 siteEx [srvEx24] flashEx24 worldEx24 7=⟨[⟨0,0⟩,⟨0,5⟩,⟨0,0⟩],[⟨0,0⟩]⟩:=by
 unfold leftW
 rw[if_pos ex24_flash.2,ex24_flashed]
 rfl
section
variable{w:World}{B:Nat}
theorem law24live(hT:TabW w):Ret Tryz.prog 9 #[] w (.bool true):=by
 have⟨hn,hx⟩:=bg0 w
 have hT':=λw' (h:Ext w w')=>hT.ext h
 replace hT':Hid _:=hT'
 (refine callsV_of Tryz.func9 rfl KR KR ?_;rw[Tryz.results9])
 (repeat' first|(with_reducible first|exact⟨⟩|(refine gB ?_;intros)|refine gT ?_ ?_)|refine gs ?_|refine sx ?_)
 refine call_k lawSite24 ?_
 rintro _ w1 n1 s1 ⟨u1,rfl,hs1⟩
 have hs1':=(hs1.sk (Nat.le_refl _)).2.2.2.2.2.2
 have e1:Bl w1.heap.size w1 w1:=Bl.refl (Nat.le_refl _)
 (repeat' first|(with_reducible first|exact⟨⟩|(refine gB ?_;intros)|refine gT ?_ ?_)|refine gs ?_|refine sx ?_)
 refine call_k lawWish24 ?_
 rintro _ w2 n2 s2 ⟨v2,l2,rfl,hl2,hl2e⟩
 have hl2':=(hl2.sk (Nat.le_refl _)).2.2
 have e2:Bl w2.heap.size w2 w2:=Bl.refl (Nat.le_refl _)
 (repeat' first|(with_reducible first|exact⟨⟩|(refine gB ?_;intros)|refine gT ?_ ?_)|refine gs ?_|refine sx ?_)
 refine call_k lawWorld24 ?_
 rintro _ w3 n3 s3 ⟨hv3,rv3,rfl,hx3⟩
 have hx3':=(hx3.sk (Nat.le_refl _)).2.2.2.2
 have e3:Bl w3.heap.size w3 w3:=Bl.refl (Nat.le_refl _)
 (repeat' first|(with_reducible first|exact⟨⟩|(refine gB ?_;intros)|refine gT ?_ ?_)|refine gs ?_|refine sx ?_)
 refine call_k lawMove24 ?_
 rintro _ w4 n4 s4 ⟨sv4,av4,vs4,rfl,hp4⟩
 have e4:Bl w4.heap.size w4 w4:=Bl.refl (Nat.le_refl _)
 have hS4:SiteR w4 w1.heap.size u1 siteEx:=hs1' _ FR
 have hW4:WishR w4 w2.heap.size v2 l2:=hl2' _ FR
 have hX4:WorldR w4 w3.heap.size hv3 rv3 worldEx24:=hx3' _ FR
 have hz1:w1.heap.size≤w4.heap.size:=FR
 have hz2:w2.heap.size≤w4.heap.size:=FR
 have hz3:w3.heap.size≤w4.heap.size:=FR
 (repeat' first|(with_reducible first|exact⟨⟩|(refine gB ?_;intros)|refine gT ?_ ?_)|refine gs ?_|refine sx ?_)
 refine call_k (undoBack (x:=3) (B:=w4.heap.size) (sd:=siteEx) (l:=l2) (p:=moveEx24) (y:=worldEx24) (e:=0) (hT'.out _ FR) (Nat.le_refl _) (hS4.up24 hz1) (hW4.up24 hz2) hp4 ⟨hX4.h.more hz3,hX4.r.more hz3⟩ (by rw[hl2e];exact ex24_move.1)) ?_
 rintro _ w5 n5 s5 ⟨bv,lv,rfl,obv,olv⟩
 rw[hl2e] at obv olv ⊢
 rw[ex24_move.2]
 rw[ex24_backL] at obv
 rw[ex24_lastL] at olv
 have obv1:=obv.one
 have olv1:=olv.one
 have olvl:lenN lv=0:=olv.sl1.len
 have olvs:=olv.sl1.sl
 have olvw:=olv.sl1.wf
 have kb:=(obv.slN (f:=stepC)).k (Nat.le_refl _)
 have e5:Bl w5.heap.size w5 w5:=Bl.refl (Nat.le_refl _)
 have e45:Bl w4.heap.size w4 w5:=FR
 have hbx:Hid (∀w',Bl w5.heap.size w5 w'→Sl w' w5.heap.size (some 4) 4 bv ([⟨1,0,0,0⟩,⟨2,1,0,0⟩].map stepV)):=λw' h=>(obv.slN (f:=stepC)).bl h
 clear obv olv hx3 hp4 hs1 hl2 hS4 hW4 hX4
 (repeat' first|(with_reducible first|exact⟨⟩|(refine gB ?_;intros)|refine gT ?_ ?_)|refine gs ?_|refine sx ?_)
 refine call_k lawSite24 ?_
 rintro _ w6 n6 s6 ⟨u6,rfl,hs6⟩
 have hs6':=(hs6.sk (Nat.le_refl _)).2.2.2.2.2.2
 have e6:Bl w6.heap.size w6 w6:=Bl.refl (Nat.le_refl _)
 clear hs6
 (repeat' first|(with_reducible first|exact⟨⟩|(refine gB ?_;intros)|refine gT ?_ ?_)|refine gs ?_|refine sx ?_)
 refine call_k lawWish24 ?_
 rintro _ w7 n7 s7 ⟨v7,l7,rfl,hl7,hl7e⟩
 have hl7':=(hl7.sk (Nat.le_refl _)).2.2
 have e7:Bl w7.heap.size w7 w7:=Bl.refl (Nat.le_refl _)
 clear hl7
 (repeat' first|(with_reducible first|exact⟨⟩|(refine gB ?_;intros)|refine gT ?_ ?_)|refine gs ?_|refine sx ?_)
 refine call_k lawWorld24 ?_
 rintro _ w8 n8 s8 ⟨hv8,rv8,rfl,hx8⟩
 have hx8':=(hx8.sk (Nat.le_refl _)).2.2.2.2
 have e8:Bl w8.heap.size w8 w8:=Bl.refl (Nat.le_refl _)
 clear hx8
 (repeat' first|(with_reducible first|exact⟨⟩|(refine gB ?_;intros)|refine gT ?_ ?_)|refine gs ?_|refine sx ?_)
 refine call_k lawFlash24 ?_
 rintro _ w9 n9 s9 ⟨sv9,av9,vs9,rfl,hp9⟩
 have e9:Bl w9.heap.size w9 w9:=Bl.refl (Nat.le_refl _)
 have hS9:SiteR w9 w6.heap.size u6 siteEx:=hs6' _ FR
 have hW9:WishR w9 w7.heap.size v7 l7:=hl7' _ FR
 have hX9:WorldR w9 w8.heap.size hv8 rv8 worldEx24:=hx8' _ FR
 have hz6:w6.heap.size≤w9.heap.size:=FR
 have hz7:w7.heap.size≤w9.heap.size:=FR
 have hz8:w8.heap.size≤w9.heap.size:=FR
 (repeat' first|(with_reducible first|exact⟨⟩|(refine gB ?_;intros)|refine gT ?_ ?_)|refine gs ?_|refine sx ?_)
 refine call_k (undoLeft (x:=7) (B:=w9.heap.size) (sd:=siteEx) (l:=l7) (p:=flashEx24) (y:=worldEx24) (e:=0) (hT'.out _ FR) (Nat.le_refl _) (hS9.up24 hz6) (hW9.up24 hz7) hp9 ⟨hX9.h.more hz8,hX9.r.more hz8⟩ (by rw[hl7e];exact ex24_flash.1)) ?_
 rintro _ wa na sa ⟨_,rfl,ha,ra,rfl,oha,ora⟩
 rw[hl7e] at oha ora ⊢
 rw[ex24_flash.2]
 rw[ex24_left] at oha ora
 have oha1:=oha.one
 have ora1:=ora.one
 have KA:SlK wa wa.heap.size 2 (some 2) ha ([⟨0,0⟩,⟨0,5⟩,⟨0,0⟩]:List StateD) stateV:=(oha.slN (f:=stateC)).k (Nat.le_refl _)
 have hrd:∀w',Bl wa.heap.size wa w'→rdv (some 2) w' (elemAt ha 2 1)=some (.agg #[.int .u8 0,.int .i64 5]):=λw' h=>KA.2.2.2.2.2.1 w' h 1 (by decide)
 have t1:Int.toNat 1=1:=rfl
 have c3:((3:Nat):Int)=3:=rfl
 have ea:Bl wa.heap.size wa wa:=Bl.refl (Nat.le_refl _)
 clear oha ora hp9 hS9 hW9 hX9
 (repeat' first|(with_reducible first|exact⟨⟩|(refine gB ?_;intros)|refine gT ?_ ?_)|refine gs ?_|refine sx ?_)
 rename_i bs ws ns ks ss qs
 refine ret_k (ref19Same24 (w:=ws) (B:=w5.heap.size) (B':=ws.heap.size) (a:=[⟨1,0,0,0⟩,⟨2,1,0,0⟩]) (b:=[⟨1,0,0,0⟩,⟨2,1,0,0⟩]) FR (Nat.le_refl _) (hbx.out _ FR) (row_of24 (sz:=4) (l:=[[.int .u8 1,intV 0,intV 0,intV 0],[.int .u8 2,intV 1,intV 0,intV 0]]) (ks.2.1 _ FR) rfl rfl (by simp) (by simp))) λwt nt st=>?_
 rw[decide_eq_true rfl]
 (repeat' first|(with_reducible first|exact⟨⟩|(refine gB ?_;intros)|refine gT ?_ ?_)|refine gs ?_|simp(maxDischargeDepth:=3) only[↓X,↓Y,↓Q,S1,↓reduceIte,Nat.reduceEqDiff,Nat.reduceAdd,Int.reduceLT,Int.reduceLE,Int.reduceNeg,Int.reduceBEq,Int.reduceBNe,Int.reduceEq,Nat.reduceLeDiff,Nat.reduceMul,Nat.reduceLT, *,stateV,stateC]|simp(singlePass:=true) (maxDischargeDepth:=99) only[*,S2,Nat.reduceLT,stateV,stateC])
end
def flashB(steps:List StepD)(L:List Int):Bool:=L.all λi=>decide (0≤i)&&decide (i<steps.length)&&(stA steps i.toNat).kind == 7
theorem seqF_bit{p:PlanD}{set:Nat}:∀(f d:Nat),∀j∈seqF p set f d,set.testBit j=true
 |0,_,j,h=>by cases h
 |f+1,d,j,h=>by
  rw[seqF] at h
  split at h
  ·cases h
  ·split at h
   ·cases h
   ·rename_i i hi
    rcases List.mem_cons.1 h with rfl|h
    ·exact List.find?_some hi
    ·exact seqF_bit f _ j h
theorem returns_facts{e x:Int}{s:SiteD}{wl:List ServiceD}{p:PlanD}{y:WorldD}(he:planErr s wl p=e)(h0:wldE e s wl p y x=0)(hf:flashB p.steps (lastL e s wl p y x)=true) :
 worldsE e s wl p y x=0∧lastW (worldsL e s wl p y x) (wldW e s wl p y x)=leftW e s wl p y x∧(lastL e s wl p y x=[]→leftW e s wl p y x=y):=by
 obtain⟨ha,hv,hr⟩:=wldE_zero h0
 obtain⟨_,_,_,_,hLlt,_⟩:=seq_facts he ha
 have hrun:=run_of hr hv
 unfold lastL at hf ⊢
 rw[if_pos h0] at hf ⊢
 have e1:wldW e s wl p y x=lastW (runL s wl p.steps (seqF p x.toNat 4096 0) y).1 y:=by rw[wldW,if_pos h0]
 have e2:backL e s wl p y x=backS s wl p.steps (y::(runL s wl p.steps (seqF p x.toNat 4096 0) y).1) (xsL (seqF p x.toNat 4096 0)):=by rw[backL,if_pos h0]
 have hbit:∀j∈seqF p x.toNat 4096 0,x.toNat.testBit j=true∧j<p.steps.length:=λj hj=>⟨seqF_bit _ _ j hj,hLlt j hj⟩
 unfold worldsE worldsL worldsQ leftW
 simp only[h0,if_true]
 rw[e1,e2]
 generalize seqF p x.toNat 4096 0=L at *
 generalize (runL s wl p.steps L y).1=ws at *
 have hfl:∀i (hi:i<L.length),lastB s wl ((y::ws).getD i noW) (stA p.steps L[i])=true→(stA p.steps L[i]).kind=7:=λi hi hb=>by
  have hm:(i,L[i])∈xsL L:=List.mem_map.2 ⟨i,List.mem_reverse.2 (List.mem_range.2 hi),by rw[List.getD_eq_getElem?_getD,List.getElem?_eq_getElem hi];rfl⟩
  have h2:L[i]∈lastS s wl p.steps (y::ws) (xsL L):=List.mem_map.2 ⟨_,List.mem_filter.2 ⟨hm,hb⟩,rfl⟩
  have h3:((L[i]:Nat):Int)∈sortI (intL (lastS s wl p.steps (y::ws) (xsL L))):=List.mem_mergeSort.2 (List.mem_map.2 ⟨_,h2,rfl⟩)
  have h4:=List.all_eq_true.1 hf _ h3
  simp only[Bool.and_eq_true,decide_eq_true_eq,Int.toNat_natCast,beq_iff_eq] at h4
  exact h4.2
 obtain⟨r1,r2,r3⟩:=returns24 hrun hfl hbit
 rw[r1]
 simp only[if_true]
 refine⟨trivial,r2,λhn=>?_⟩
 have hl:lastS s wl p.steps (y::ws) (xsL L)=[]:=by
  have:=congrArg List.length hn
  rw[sortI,List.length_mergeSort,intL,List.length_map] at this
  exact List.eq_nil_of_length_eq_zero this
 rw[←r2]
 exact r3 hl
section
variable{w:World}{B B':Nat}{u:SiteVs}{sd:SiteD}{wv sv av hv rv mv:Value}{vs:List Value}{l:List SrvV}{p:PlanD}{y:WorldD}
theorem law24flashes{L:List Int}(hB:B≤w.heap.size)(hB':B'≤w.heap.size)(hpl:PlanR w B sv av vs p)(hm:Sl w B' none 1 mv (L.map intV)):Ret Tryz.prog 20 #[.agg #[sv,av],mv] w (.bool (flashB p.steps L)):=by
 have⟨hn,hx⟩:=bg0 w
 have hp':=hpl.sk hB
 have hst:=hp'.1
 have hstf:=hpl.s.fk
 have hm':=hm.k hB'
 have hbw:Bl B w w:=Bl.refl hB
 have hbm:Bl B' w w:=Bl.refl hB'
 have hsv1:=hpl.s.one
 have hav1:=hp'.2.2.2.2.1
 have hstA:Hid (∀i (h:i<p.steps.length),stA p.steps i=p.steps[i]):=λi h=>stA_at h
 have hlm:=hm.max_
 have hls:=hpl.s.max_
 clear hp'
 (refine callsV_of Tryz.func20 rfl KR KR ?_;rw[Tryz.results20])
 (repeat' first|(with_reducible first|exact⟨⟩|(refine gB ?_;intros)|refine gT ?_ ?_)|refine gs ?_|refine sx ?_)
 refine loop_k (L.length) (λg0 k g _=>g 5=.int .i64 k∧(g 1=g0 1∧g 2=g0 2)∧Hid (flashB p.steps (L.take k)=true)) KR (hlm) ?_ ?_ ?_
 ·(repeat' first|(with_reducible first|exact⟨⟩|(refine gB ?_;intros)|refine gT ?_ ?_)|refine gs ?_|simp(maxDischargeDepth:=3) only[↓X,↓Y,↓Q,S1,↓reduceIte,Nat.reduceEqDiff,Nat.reduceAdd,Int.reduceLT,Int.reduceLE,Int.reduceNeg,Int.reduceBEq,Int.reduceBNe,Int.reduceEq,Nat.reduceLeDiff,Nat.reduceMul,Nat.reduceLT, *,List.take_zero,List.all_nil,List.any_nil]|simp(singlePass:=true) (maxDischargeDepth:=99) only[*,S2,Nat.reduceLT,List.take_zero,List.all_nil,List.any_nil])
  exact rfl
 ·rintro k m g wk hk hlt _ _ _ hw ⟨hi,hf,hp⟩
  simp(maxDischargeDepth:=3) only[U,↓reduceIte,Nat.reduceEqDiff, *] at hf
  by_cases h1:L[k]<0
  ·have:flashB p.steps L=false:=by
    rw[flashB,List.all_eq_false]
    exact⟨_,List.getElem_mem hlt,by simp;omega⟩
   rw[this]
   (repeat' first|(with_reducible first|exact⟨⟩|(refine gB ?_;intros)|refine gT ?_ ?_)|refine gs ?_|refine sx ?_)
  ·obtain⟨i,hi0⟩:∃i:Nat,L[k]=(i:Int):=⟨(L[k]).toNat,by omega⟩
   by_cases h2:i<p.steps.length
   ·have h2':¬p.steps.length≤i:=by omega
    by_cases h7:p.steps[i].kind=7
    ·have hnx:flashB p.steps (L.take (k+1))=true:=by
      rw[List.take_add_one,List.getElem?_eq_getElem hlt,flashB,List.all_append,Bool.and_eq_true]
      refine⟨hp.out,?_⟩
      simp[hi0,h2,hstA.out i h2,h7]
     (repeat' first|(with_reducible first|exact⟨⟩|(refine gB ?_;intros)|refine gT ?_ ?_)|refine gs ?_|refine sxLawA241 ?_)
     refine next_k hk hlt ?_ FR
     (repeat' first|(with_reducible first|exact⟨⟩|(refine gB ?_;intros)|refine gT ?_ ?_)|refine gs ?_|refine sx ?_)
     exact trivial
    ·have:flashB p.steps L=false:=by
      rw[flashB,List.all_eq_false]
      exact⟨_,List.getElem_mem hlt,by simp[hi0,h2,hstA.out i h2,h7]⟩
     rw[this]
     (repeat' first|(with_reducible first|exact⟨⟩|(refine gB ?_;intros)|refine gT ?_ ?_)|refine gs ?_|refine sxLawA241 ?_)
     all_goals contradiction
   ·have:flashB p.steps L=false:=by
     rw[flashB,List.all_eq_false]
     exact⟨_,List.getElem_mem hlt,by simp[hi0];omega⟩
    have h2':p.steps.length≤i:=by omega
    rw[this]
    (repeat' first|(with_reducible first|exact⟨⟩|(refine gB ?_;intros)|refine gT ?_ ?_)|refine gs ?_|refine sx ?_)
 ·rintro g wk _ _ _ ⟨hi,hf,hp⟩
  simp(maxDischargeDepth:=3) only[U,↓reduceIte,Nat.reduceEqDiff, *] at hf
  (repeat' first|(with_reducible first|exact⟨⟩|(refine gB ?_;intros)|refine gT ?_ ?_)|refine gs ?_|refine sx ?_)
  have h9:=hp.out
  rw[List.take_length] at h9
  rw[h9]
end
end Go.Proofs.YtphciegaokdolaaGreatDoor
