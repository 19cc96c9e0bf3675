/- The document's answer, layer 13: Set. -/
import Derived.Test.YtphciegaokdolaaGreatDoorCopy13
import Derived.Test.YtphciegaokdolaaGreatDoorRow
import Derived.Test.YtphciegaokdolaaGreatDoorRel
namespace Go.Proofs.YtphciegaokdolaaGreatDoor
set_option linter.unusedSimpArgs false
set_option linter.unusedVariables false
open Go Go.RowKit
set_option maxRecDepth 100000
set_option linter.unusedSectionVars false
set_option maxHeartbeats 1000000
theorem sxSet130{p q:Prop}(hq:q)(h:p=q:=by first|(simp(maxDischargeDepth:=3) only[↓X,↓Y,↓Q,S1,↓reduceIte,Nat.reduceEqDiff,Nat.reduceAdd,Int.reduceLT,Int.reduceLE,Int.reduceNeg,Int.reduceBEq,Int.reduceBNe,Int.reduceEq,Nat.reduceLeDiff,Nat.reduceMul,Nat.reduceLT, *,stateV];try exact rfl)|(simp(singlePass:=true) (maxDischargeDepth:=99) only[*,S2,Nat.reduceLT,stateV];try exact rfl)):p:=h▸hq
theorem sxSet132{p q:Prop}(hq:q)(h:p=q:=by first|(simp(maxDischargeDepth:=3) only[↓X,↓Y,↓Q,S1,↓reduceIte,Nat.reduceEqDiff,Nat.reduceAdd,Int.reduceLT,Int.reduceLE,Int.reduceNeg,Int.reduceBEq,Int.reduceBNe,Int.reduceEq,Nat.reduceLeDiff,Nat.reduceMul,Nat.reduceLT, *,replicaV];try exact rfl)|(simp(singlePass:=true) (maxDischargeDepth:=99) only[*,S2,Nat.reduceLT,replicaV];try exact rfl)):p:=h▸hq
def setOk(x:WorldD)(host:Int):Bool:=sortedB x.replicas&&idx host x.hosts.length
def setE(x:WorldD)(host:Int):Int:=if setOk x host=true then 0 else 1
def noW:WorldD:=⟨[],[]⟩
def setW(x:WorldD)(host:Int)(h:StateD):WorldD:=if setOk x host=true then⟨x.hosts.set host.toNat h,x.replicas⟩ else noW
theorem own_ne{w:World}{B B' e e' sz sz' b:Nat}{v v':Value}{cs cs':List (List Value)}(h:Own w B e sz v cs)(h':Own w B' e' sz' v' cs')(hne:¬e=e')(hb:blockOf v=some b):¬blockOf v'=some b:=by
 rcases h.1.2 with ⟨rfl,_⟩|⟨g,cap,cur,rfl,_,hg,rest⟩
 ·cases hb
 ·rcases h'.1.2 with ⟨rfl,_⟩|⟨g',cap',cur',rfl,_,hg',rest'⟩
  ·intro h9;cases h9
  ·intro h9
   have e1:g=b:=Option.some.inj hb
   have e2:g'=b:=Option.some.inj h9
   subst e1
   subst e2
   rw[hg] at hg'
   injection hg' with h3
   injection h3 with _ h4
   exact hne h4
theorem OwnW.none(B:Nat)(w:World):OwnW B (.agg #[.slice none 0 0,.slice none 0 0]) w noW:=⟨_,_,rfl,Own.nil _ _ _ _,Own.nil _ _ _ _⟩
section
variable{w:World}{B B':Nat}{hv rv hv' rv':Value}{x y:WorldD}
theorem ref13Set{host:Int}{h:StateD}(hB:B≤w.heap.size)(hx0:WorldR w B hv rv x)(hl1:x.hosts.length≤1000000)(hl2:x.replicas.length≤1000000):CallsV Tryz.prog 74 #[.agg #[hv,rv],intV host,stateV h] w λv w'=>Ext w w'∧∃u,v=.tuple #[u,intV (setE x host)]∧OwnW w.heap.size u w' (setW x host h):=by
 have⟨hn,hx⟩:=bg0 w
 have hx':=hx0.sk hB
 have hX:=hx'.2.2.2.2
 have hlen:x.hosts.length<1000000000000∧x.replicas.length<1000000000000:=⟨by omega,by omega⟩
 have hlen:Hid _:=hlen
 clear hl1 hl2
 obtain⟨sb,hsb⟩:∃sb,Hid (sortedB x.replicas=sb):=⟨_,rfl⟩
 have hso:=λw' (hb:Bl B w w') (hB':B≤w'.heap.size)=>ref13Ascending hB' (WorldR.r (hX w' hb))
 rw[hsb.out] at hso
 have hbad:¬setOk x host=true→Hid (setE x host=1∧setW x host h=noW):=λhh=>⟨by simp[setE,hh],by simp[setW,hh]⟩
 have hgood:setOk x host=true→Hid (setE x host=0∧setW x host h=⟨x.hosts.set host.toNat h,x.replicas⟩):=λhh=>⟨by simp[setE,hh],by simp[setW,hh]⟩
 have hok:setOk x host=(sb&&idx host x.hosts.length):=by rw[setOk,hsb.out]
 generalize setE x host=e at *
 generalize setW x host h=W at *
 generalize setOk x host=ok at *
 subst hok
 have hbad:Hid _:=hbad
 have hgood:Hid _:=hgood
 clear hsb
 (refine callsV_of Tryz.func74 rfl KR KR ?_;rw[Tryz.results74])
 cases sb
 ·obtain⟨rfl,rfl⟩:=(hbad.out (by simp)).out
  clear hbad hgood
  (repeat' first|(with_reducible first|exact⟨⟩|(refine gB ?_;intros)|refine gT ?_ ?_)|refine gs ?_|((with_reducible refine at_f 85 ?_);refine ret_k (hso _ FR FR) λ_ _ _=>?_)|refine sxSet130 ?_)
  exact⟨_,rfl,OwnW.none _ _⟩
 ·(repeat' first|(with_reducible first|exact⟨⟩|(refine gB ?_;intros)|refine gT ?_ ?_)|refine gs ?_|((with_reducible refine at_f 85 ?_);refine ret_k (hso _ FR FR) λ_ _ _=>?_)|refine sxSet130 ?_)
  ·obtain⟨rfl,rfl⟩:=(hbad.out (by simp only[idx,Bool.true_and,Bool.and_eq_true,decide_eq_true_eq];omega)).out
   exact⟨_,rfl,OwnW.none _ _⟩
  ·obtain⟨rfl,rfl⟩:=(hbad.out (by simp only[idx,Bool.true_and,Bool.and_eq_true,decide_eq_true_eq];omega)).out
   exact⟨_,rfl,OwnW.none _ _⟩
  ·rename_i hp1 hp2
   obtain⟨rfl,rfl⟩:=(hgood.out (by simp only[idx,Bool.true_and,Bool.and_eq_true,decide_eq_true_eq];omega)).out
   obtain⟨k,rfl⟩:∃k:Nat,host=(k:Int):=⟨host.toNat,by omega⟩
   have hk:k<x.hosts.length:=by omega
   clear hbad hgood hp1 hp2
   refine call_k (ref13Copy (B:=B) FR (hX _ FR) hlen.out) ?_
   rintro _ w1 n1 s1 ⟨h2,r2,rfl,hown1,hown2⟩
   have o1:=hown1.o
   have o2:=hown2.o
   have v1:=(hown1.slN (f:=stateC)).v (Nat.le_refl _)
   rw[show(λx=>Value.agg (stateC x).toArray)=stateV from rfl] at v1
   (repeat' first|(with_reducible first|exact⟨⟩|(refine gB ?_;intros)|refine gT ?_ ?_)|refine gs ?_|refine sxSet130 ?_)
   have hlt1:=λb hb=>(hown1.lt b (by rw[←hown1.block];exact hb)).2
   have hne1:=λb hb=>own_ne (b:=b) hown1 hown2 (by decide) hb
   refine own_set (i:=k) (vs:=stateC h) KR (by decide) (o1.1 _ FR) (by simpa using hk) rfl (stateC_one h) λb9 w9 n9 e9 hb9 hl9 hown9 s9 c9=>?_
   have nw9:=Nw.of hb9
   have hlt9:=hlt1 b9 e9
   have hne9:=hne1 b9 e9
   have o9:=hown9.o
   rw[←List.map_set] at o9
   clear e9 hlt1 hne1 hown1 hown2 hown9 o1 v1
   (repeat' first|(with_reducible first|exact⟨⟩|(refine gB ?_;intros)|refine gT ?_ ?_)|refine gs ?_|refine sx ?_)
   exact⟨_,rfl,_,_,rfl,Own.more (o9.1 _ FR) FR,Own.more (o2.1 _ FR) FR⟩
end
section
variable{w:World}{B B':Nat}{hv rv hv' rv':Value}{x y:WorldD}
theorem worldSet{host:Int}{h:StateD}(hB:B≤w.heap.size)(hx0:WorldR w B hv rv x)(hl1:x.hosts.length≤1000000)(hl2:x.replicas.length≤1000000):CallsV Tryz.prog 82 #[.agg #[hv,rv],intV host,stateV h] w λv w'=>Ext w w'∧∃u,v=.tuple #[u,intV (setE x host)]∧OwnW w.heap.size u w' (setW x host h):=by
 have⟨hn,hx⟩:=bg0 w
 have hx':=hx0.sk hB
 have hX:=hx'.2.2.2.2
 have hlen:x.hosts.length<1000000000000∧x.replicas.length<1000000000000:=⟨by omega,by omega⟩
 have hlen:Hid _:=hlen
 have hl1:Hid _:=hl1
 have hl2:Hid _:=hl2
 obtain⟨sb,hsb⟩:∃sb,Hid (sortedB x.replicas=sb):=⟨_,rfl⟩
 have hso:=λw' (hb:Bl B w w') (hB':B≤w'.heap.size)=>worldSorted hB' (WorldR.r (hX w' hb))
 rw[hsb.out] at hso
 have hbad:¬setOk x host=true→Hid (setE x host=1∧setW x host h=noW):=λhh=>⟨by simp[setE,hh],by simp[setW,hh]⟩
 have hgood:setOk x host=true→Hid (setE x host=0∧setW x host h=⟨x.hosts.set host.toNat h,x.replicas⟩):=λhh=>⟨by simp[setE,hh],by simp[setW,hh]⟩
 have hok:setOk x host=(sb&&idx host x.hosts.length):=by rw[setOk,hsb.out]
 have hbt:btw host 0 (IntKind.i64.wrap ((x.hosts.length:Int) - 1))=idx host x.hosts.length:=by
  have:=hlen.out
  have e:IntKind.i64.wrap ((x.hosts.length:Int) - 1)=(x.hosts.length:Int) - 1:=by rw[wrap_i64_id]<;>omega
  rw[e,Bool.eq_iff_iff]
  simp only[btw,idx,Bool.and_eq_true,decide_eq_true_eq]
  omega
 have hidx:idx host x.hosts.length=true→∃k:Nat,host=(k:Int)∧k<x.hosts.length:=λh=>by
  simp only[idx,Bool.and_eq_true,decide_eq_true_eq] at h
  exact⟨host.toNat,by omega,by omega⟩
 generalize setE x host=e at *
 generalize setW x host h=W at *
 generalize setOk x host=ok at *
 generalize idx host x.hosts.length=c at *
 subst hok
 have hbad:Hid _:=hbad
 have hgood:Hid _:=hgood
 have hidx:Hid _:=hidx
 clear hsb
 (refine callsV_of Tryz.func82 rfl KR KR ?_;rw[Tryz.results82])
 cases sb
 ·obtain⟨rfl,rfl⟩:=(hbad.out (by simp)).out
  clear hbad hgood
  (repeat' first|((with_reducible refine wpd_at 3 ?_);refine wpd_hold ?_)|(with_reducible first|exact⟨⟩|(refine gB ?_;intros)|refine gT ?_ ?_)|refine gs ?_|((with_reducible refine at_f 104 ?_);refine ret_k (hso _ FR FR) λ_ _ _=>?_)|((with_reducible refine at_f 106 ?_);refine ret_k (worldBetween) λ_ _ _=>?_)|refine sxSet130 ?_)
  all_goals exact⟨_,rfl,OwnW.none _ _⟩
 ·cases c
  ·obtain⟨rfl,rfl⟩:=(hbad.out (by simp)).out
   clear hbad hgood
   (repeat' first|((with_reducible refine wpd_at 3 ?_);refine wpd_hold ?_)|(with_reducible first|exact⟨⟩|(refine gB ?_;intros)|refine gT ?_ ?_)|refine gs ?_|((with_reducible refine at_f 104 ?_);refine ret_k (hso _ FR FR) λ_ _ _=>?_)|((with_reducible refine at_f 106 ?_);refine ret_k (worldBetween) λ_ _ _=>?_)|refine sxSet130 ?_)
   all_goals exact⟨_,rfl,OwnW.none _ _⟩
  ·obtain⟨rfl,rfl⟩:=(hgood.out (by simp)).out
   obtain⟨k,rfl,hk⟩:=hidx.out rfl
   clear hbad hgood
   (repeat' first|((with_reducible refine wpd_at 3 ?_);refine wpd_hold ?_)|(with_reducible first|exact⟨⟩|(refine gB ?_;intros)|refine gT ?_ ?_)|refine gs ?_|((with_reducible refine at_f 104 ?_);refine ret_k (hso _ FR FR) λ_ _ _=>?_)|((with_reducible refine at_f 106 ?_);refine ret_k (worldBetween) λ_ _ _=>?_)|refine sxSet130 ?_)
   rename_i b3 w3 n3 k3 s3 q3 b5 w5 n5 k5 s5 q5 b6 w6 n6 k6 s6 q6 wa na sa wb nb sb
   unfold wpdH
   refine wpd_rel 7 (λi v w'=>match i with
    |0=>v=.agg #[hv,rv]
    |1=>OwnH w' wb.heap.size v x.hosts
    |2=>v=.pointer (some ⟨b3,1,none⟩)
    |3=>v=rv
    |4=>OwnP w' wb.heap.size v x.replicas
    |5=>∃h r,v=.agg #[h,r]∧OwnH w' wb.heap.size h x.hosts∧OwnP w' wb.heap.size r x.replicas
    |6=>∃b,v=.pointer (some ⟨b,0,none⟩)∧Blk w' b 36 [.slice none 0 0,.slice none 0 0]∧wb.heap.size≤b
    |_=>False) KR KR KR ?_ ?_ ?_
   ·intro i v w1 w2 hR hx9
    match i,hR with
    |0,h=>exact h
    |1,h=>exact Own.ext h hx9
    |2,h|3,h=>exact h
    |4,h=>exact Own.ext h hx9
    |5,⟨h,r,e,h1,h2⟩=>exact⟨h,r,e,h1.ext hx9,h2.ext hx9⟩
    |6,⟨b,e,h1,h2⟩=>exact⟨b,e,h1.ext hx9,h2⟩
   ·intro i o hi ho g w9 hx9 hdep hag
    have⟨s9,n9,r9,z9⟩:=bg9 hx9
    rcases i with _|_|_|_|_|_|_|i
    ·cases ho
     have a3:=hag.at 3 KR
     simp only[U,↓reduceIte,Nat.reduceEqDiff] at a3
     clear hag hdep
     simp only[relStep,guardOn,if_true]
     (repeat' first|(with_reducible first|exact⟨⟩|(refine gB ?_;intros)|refine gT ?_ ?_)|refine gs ?_|refine sx ?_)
    ·cases ho
     have d0:g 23=.agg #[hv,rv]:=hdep ⟨0,.data⟩ (by simp) rfl _ _ rfl rfl
     clear hag hdep
     simp only[relStep,guardOn,if_true]
     (repeat' first|(with_reducible first|exact⟨⟩|(refine gB ?_;intros)|refine gT ?_ ?_)|refine gs ?_|refine sx ?_)
     refine CallsV.mono (worldHosts (B:=B) FR (hX _ FR) hl1.out) λv w10 hh=>⟨hh.1,Own.more hh.2 z9⟩
    ·cases ho
     have a3:=hag.at 3 KR
     simp only[U,↓reduceIte,Nat.reduceEqDiff] at a3
     clear hag hdep
     simp only[relStep,guardOn,if_true]
     (repeat' first|(with_reducible first|exact⟨⟩|(refine gB ?_;intros)|refine gT ?_ ?_)|refine gs ?_|refine sx ?_)
    ·cases ho
     have d2:g 25=.pointer (some ⟨b3,1,none⟩):=hdep ⟨2,.data⟩ (by simp) rfl _ _ rfl rfl
     clear hag hdep
     simp only[relStep,guardOn,if_true]
     (repeat' first|(with_reducible first|exact⟨⟩|(refine gB ?_;intros)|refine gT ?_ ?_)|refine gs ?_|refine sx ?_)
    ·cases ho
     have d3:g 26=rv:=hdep ⟨3,.data⟩ (by simp) rfl _ _ rfl rfl
     clear hag hdep
     simp only[relStep,guardOn,if_true]
     (repeat' first|(with_reducible first|exact⟨⟩|(refine gB ?_;intros)|refine gT ?_ ?_)|refine gs ?_|refine sx ?_)
     refine CallsV.mono (slicesCloneP (B:=B) FR (WorldR.r (hX _ FR)) hl2.out) λv w10 hh=>⟨hh.1,Own.more hh.2 z9⟩
    ·cases ho
     have d1:OwnH w9 wb.heap.size (g 24) x.hosts:=hdep ⟨1,.data⟩ (by simp) rfl _ _ rfl rfl
     have d4:OwnP w9 wb.heap.size (g 27) x.replicas:=hdep ⟨4,.data⟩ (by simp) rfl _ _ rfl rfl
     have o1:=d1.o
     have o4:=d4.o
     clear hag hdep
     simp only[relStep,guardOn,if_true]
     (repeat' first|(with_reducible first|exact⟨⟩|(refine gB ?_;intros)|refine gT ?_ ?_)|refine gs ?_|refine sx ?_)
     exact⟨_,_,rfl,d1,d4⟩
    ·cases ho
     clear hag hdep
     simp only[relStep,guardOn,if_true]
     (repeat' first|(with_reducible first|exact⟨⟩|(refine gB ?_;intros)|refine gT ?_ ?_)|refine gs ?_|refine sx ?_)
     rename_i b10 w10 n10 k10 s10 q10
     exact⟨_,rfl,k10.2.1 _ k10.2.2.1,FR⟩
    ·omega
   ·intro g w9 hx9 hR hag
    have⟨s9,n9,r9,z9⟩:=bg9 hx9
    obtain⟨h2,r2,e28,hown1,hown2⟩:∃h r,g 28=.agg #[h,r]∧OwnH w9 wb.heap.size h x.hosts∧OwnP w9 wb.heap.size r x.replicas:=hR 5 _ _ (by decide) rfl rfl
    obtain⟨b8,e8,hb8,q8⟩:∃b,g 8=.pointer (some ⟨b,0,none⟩)∧Blk w9 b 36 [.slice none 0 0,.slice none 0 0]∧wb.heap.size≤b:=hR 6 _ _ (by decide) rfl rfl
    have a1:=hag.at 1 KR
    have a5:=hag.at 5 KR
    have a6:=hag.at 6 KR
    simp only[U,↓reduceIte,Nat.reduceEqDiff,initF,U2,List.getElem?_cons_zero,List.getElem?_cons_succ] at a1 a5 a6
    clear hag hR
    have k8:=hb8.bk
    have nw8:=Nw.of q8
    have o1:=hown1.o
    have o2:=hown2.o
    have v1:=(hown1.slN (f:=stateC)).v (Nat.le_refl _)
    rw[show(λx=>Value.agg (stateC x).toArray)=stateV from rfl] at v1
    have ne1:¬blockOf h2=some b8:=by rw[hown1.block];exact hown1.ne hb8 (by decide)
    have ne2:¬blockOf r2=some b8:=by rw[hown2.block];exact hown2.ne hb8 (by decide)
    simp only[List.drop_succ_cons,List.drop_zero]
    (repeat' first|(with_reducible first|exact⟨⟩|(refine gB ?_;intros)|refine gT ?_ ?_)|refine gs ?_|refine sxSet130 ?_)
    have hne1:=λb hb=>own_ne (b:=b) hown1 hown2 (by decide) hb
    refine own_set (i:=k) (vs:=stateC h) KR (by decide) (o1.1 _ FR) (by simpa using hk) rfl (stateC_one h) λb9 w10 n10 e9 hb9 hl9 hown9 s10 c10=>?_
    have nw9:=Nw.of hb9
    have hne9:=hne1 b9 e9
    have n98:¬b9=b8:=by rintro rfl;exact ne1 e9
    have n89:¬b8=b9:=λh=>n98 h.symm
    have o9:=hown9.o
    rw[←List.map_set] at o9
    clear e9 hne1 hown1 hown2 hown9 o1 v1
    (repeat' first|(with_reducible first|exact⟨⟩|(refine gB ?_;intros)|refine gT ?_ ?_)|refine gs ?_|refine sx ?_)
    exact⟨_,rfl,_,_,rfl,Own.more (o9.1 _ FR) FR,Own.more (o2.1 _ FR) FR⟩
end
def stopE(x:WorldD)(r:ReplicaD):Int:=if sortedB x.replicas=true then if hasB x.replicas r=true then 0 else 7 else 1
def stopF(r:ReplicaD)(l:List ReplicaD):List ReplicaD:=l.filter λa=>!decide (a=r)
def stopW(x:WorldD)(r:ReplicaD):WorldD:=if stopE x r=0 then⟨x.hosts,stopF r x.replicas⟩ else noW
theorem stop_take{l:List ReplicaD}{k:Nat}(h:k<l.length)(r:ReplicaD):stopF r (l.take (k+1))=stopF r (l.take k)++if l[k]=r then[] else[l[k]]:=by
 unfold stopF
 rw[filter_take h]
 by_cases e:l[k]=r<;>simp[e]
theorem stop_len(l:List ReplicaD)(r:ReplicaD):(stopF r l).length≤l.length:=List.length_filter_le _ _
theorem appP{w:World}{B b cp:Nat}{s:Value}{l:List ReplicaD}(x:ReplicaD){k:Value→World→Prop}(hown:OwnP w B s l)(hb:Blk w b 98 (replC x))(hbound:l.length<1000000000000)(hB:B≤w.heap.size)
 (h:∀v' w',Now w'→Sa B w w'→OwnP w' B v' (l++[x])→k v' w'):appX Tryz.prog 34 34 34 s (.slice (some ⟨b,0,none⟩) 1 cp) w k:=
 append_k (e:=98) (sz:=2) (by_:=16) (z:=.agg #[.int .i64 0,.int .i64 0]) (c:=replC) x KR KR rfl (by decide) (by decide) hown hb rfl (replC_one x) hbound hB h
section
variable{w:World}{B B':Nat}{hv rv hv' rv':Value}{x y:WorldD}
theorem ref13Stop{r:ReplicaD}(hB:B≤w.heap.size)(hx0:WorldR w B hv rv x)(hl1:x.hosts.length≤1000000)(hl2:x.replicas.length≤1000000):CallsV Tryz.prog 73 #[.agg #[hv,rv],replicaV r] w λv w'=>Ext w w'∧∃u,v=.tuple #[u,intV (stopE x r)]∧OwnW w.heap.size u w' (stopW x r):=by
 have⟨hn,hx⟩:=bg0 w
 have hx':=hx0.sk hB
 have hX:=hx'.2.2.2.2
 have hlen:x.hosts.length<1000000000000∧x.replicas.length<1000000000000:=⟨by omega,by omega⟩
 have hlen:Hid _:=hlen
 clear hl1 hl2
 have hso:=λw' (hb:Bl B w w') (hB':B≤w'.heap.size)=>ref13Ascending hB' (WorldR.r (hX w' hb))
 have hha:=λw' (hb:Bl B w w') (hB':B≤w'.heap.size)=>ref13Has (r:=r) hB' (hX w' hb)
 have h1:sortedB x.replicas=false→Hid (stopE x r=1∧stopW x r=noW):=λh=>⟨by simp[stopE,h],by simp[stopW,stopE,h]⟩
 have h2:sortedB x.replicas=true→hasB x.replicas r=false→Hid (stopE x r=7∧stopW x r=noW):=λh h'=>⟨by simp[stopE,h,h'],by simp[stopW,stopE,h,h']⟩
 have h3:sortedB x.replicas=true→hasB x.replicas r=true→Hid (stopE x r=0∧stopW x r=⟨x.hosts,stopF r x.replicas⟩):=λh h'=>⟨by simp[stopE,h,h'],by simp[stopW,stopE,h,h']⟩
 generalize sortedB x.replicas=sb at *
 generalize hasB x.replicas r=hb at *
 generalize stopE x r=e at *
 generalize stopW x r=W at *
 have h1:Hid _:=h1
 have h2:Hid _:=h2
 have h3:Hid _:=h3
 (refine callsV_of Tryz.func73 rfl KR KR ?_;rw[Tryz.results73])
 cases sb
 ·obtain⟨rfl,rfl⟩:=(h1.out rfl).out
  clear h1 h2 h3
  (repeat' first|(with_reducible first|exact⟨⟩|(refine gB ?_;intros)|refine gT ?_ ?_)|refine gs ?_|((with_reducible refine at_f 85 ?_);refine ret_k (hso _ FR FR) λ_ _ _=>?_)|((with_reducible refine at_f 128 ?_);refine ret_k (hha _ FR FR) λ_ _ _=>?_)|refine sxSet132 ?_)
  all_goals exact⟨_,rfl,OwnW.none _ _⟩
 ·cases hb
  ·obtain⟨rfl,rfl⟩:=(h2.out rfl rfl).out
   clear h1 h2 h3
   (repeat' first|(with_reducible first|exact⟨⟩|(refine gB ?_;intros)|refine gT ?_ ?_)|refine gs ?_|((with_reducible refine at_f 85 ?_);refine ret_k (hso _ FR FR) λ_ _ _=>?_)|((with_reducible refine at_f 128 ?_);refine ret_k (hha _ FR FR) λ_ _ _=>?_)|refine sxSet132 ?_)
   all_goals exact⟨_,rfl,OwnW.none _ _⟩
  ·obtain⟨rfl,rfl⟩:=(h3.out rfl rfl).out
   clear h1 h2 h3
   (repeat' first|(with_reducible first|exact⟨⟩|(refine gB ?_;intros)|refine gT ?_ ?_)|refine gs ?_|((with_reducible refine at_f 85 ?_);refine ret_k (hso _ FR FR) λ_ _ _=>?_)|((with_reducible refine at_f 128 ?_);refine ret_k (hha _ FR FR) λ_ _ _=>?_)|refine sxSet132 ?_)
   refine call_k (ref13Copy (B:=B) FR (hX _ FR) hlen.out) ?_
   rintro _ w1 n1 s1 ⟨h2,r2,rfl,hown1,hown2⟩
   have o1:=hown1.o
   have o2:=hown2.o
   (repeat' first|(with_reducible first|exact⟨⟩|(refine gB ?_;intros)|refine gT ?_ ?_)|refine gs ?_|refine sx ?_)
   refine st_one KR (by simp) rfl λw4 n4 k4 s4=>?_
   simp only[List.set_cons_zero,List.set_cons_succ] at k4
   (repeat' first|(with_reducible first|exact⟨⟩|(refine gB ?_;intros)|refine gT ?_ ?_)|refine gs ?_|refine sxSet132 ?_)
   rename_i b2 v2 u2 k2 t2 q2 b3 v3 u3 k3 t3 q3 b4 v4 u4 k8 t4 q4 va ua ta vb ub tb b6 w5 n5 k5 s5 q5 w6 n6 k6 s6
   clear k5 k6 hown1 hown2
   have hb6:Blk w4 b6 36 [h2,.slice none 0 0]:=k4.2.1 _ k4.2.2.1
   refine loop_b b6 x.replicas.length (λg0 k g w'=>g 7=.int .i64 k∧(g 2=g0 2∧g 3=g0 3∧g 4=g0 4∧g 6=g0 6)∧∃rows,Blk w' b6 36 [h2,rows]∧OwnP w' w4.heap.size rows (stopF r (x.replicas.take k))) KR hx0.r.max_ FR ?_ ?_ ?_
   ·(repeat' first|(with_reducible first|exact⟨⟩|(refine gB ?_;intros)|refine gT ?_ ?_)|refine gs ?_|refine sx ?_)
    exact⟨_,hb6,Own.nil _ _ _ _⟩
   ·rintro k m g wk hk hlt nk sk ck hw hww ⟨hi,hf,rows,hbk,hown⟩
    simp(maxDischargeDepth:=3) only[U,↓reduceIte,Nat.reduceEqDiff, *] at hf
    have kk:=hbk.bk
    have ok:=hown.o
    have ht:=stop_take hlt r
    clear hbk hown
    (repeat' first|((with_reducible refine wpd_at 11 ?_);refine wpd_hold ?_)|(with_reducible first|exact⟨⟩|(refine gB ?_;intros)|refine gT ?_ ?_)|refine gs ?_|simp(maxDischargeDepth:=3) only[↓X,↓Y,↓Q,S1,↓reduceIte,Nat.reduceEqDiff,Nat.reduceAdd,Int.reduceLT,Int.reduceLE,Int.reduceNeg,Int.reduceBEq,Int.reduceBNe,Int.reduceEq,Nat.reduceLeDiff,Nat.reduceMul,Nat.reduceLT, *,replicaV,repl_eq,dec_not]|simp(singlePass:=true) (maxDischargeDepth:=99) only[*,S2,Nat.reduceLT,replicaV,repl_eq,dec_not])
    ·refine next_b hk hlt ?_ FR
     (repeat' first|(with_reducible first|exact⟨⟩|(refine gB ?_;intros)|refine gT ?_ ?_)|refine gs ?_|refine sx ?_)
     exact⟨_,kk.2.1 _ FR,ok.1 _ FR⟩
    ·rename_i vz uz tz
     unfold wpdH
     refine wpd_rel 8 (λi v w'=>match i with
      |0=>v=.pointer (some ⟨b6,1,none⟩)
      |1=>v=rows
      |2=>v=.pointer (some ⟨b2,1,none⟩)
      |3=>v=rv
      |4=>v=.int .i64 k
      |5=>v=elemAt rv 2 k
      |6=>v=replicaV x.replicas[k]
      |7=>∃b,v=.slice (some ⟨b,0,none⟩) 1 1∧Blk w' b 98 (replC x.replicas[k])∧wk.heap.size≤b
      |_=>False) KR KR KR ?_ ?_ ?_
     ·intro i v w1 w2 hR hx9
      match i,hR with
      |0,h|1,h|2,h|3,h|4,h|5,h|6,h=>exact h
      |7,⟨b,e,h1,h2⟩=>exact⟨b,e,h1.ext hx9,h2⟩
     ·intro i o hi ho g w9 hx9 hdep hag
      have⟨s9,n9,r9,z9⟩:=bg9 hx9
      rcases i with _|_|_|_|_|_|_|_|i
      ·cases ho
       have a6:=hag.at 6 KR
       simp only[U,↓reduceIte,Nat.reduceEqDiff, *] at a6
       clear hag hdep
       simp only[relStep,guardOn,if_true]
       (repeat' first|(with_reducible first|exact⟨⟩|(refine gB ?_;intros)|refine gT ?_ ?_)|refine gs ?_|refine sxSet132 ?_)
      ·cases ho
       have d0:g 35=.pointer (some ⟨b6,1,none⟩):=hdep ⟨0,.data⟩ (by simp) rfl _ _ rfl rfl
       clear hag hdep
       simp only[relStep,guardOn,if_true]
       (repeat' first|(with_reducible first|exact⟨⟩|(refine gB ?_;intros)|refine gT ?_ ?_)|refine gs ?_|refine sxSet132 ?_)
      ·cases ho
       have a2:=hag.at 2 KR
       simp only[U,↓reduceIte,Nat.reduceEqDiff, *] at a2
       clear hag hdep
       simp only[relStep,guardOn,if_true]
       (repeat' first|(with_reducible first|exact⟨⟩|(refine gB ?_;intros)|refine gT ?_ ?_)|refine gs ?_|refine sxSet132 ?_)
      ·cases ho
       have d0:g 37=.pointer (some ⟨b2,1,none⟩):=hdep ⟨2,.data⟩ (by simp) rfl _ _ rfl rfl
       clear hag hdep
       simp only[relStep,guardOn,if_true]
       (repeat' first|(with_reducible first|exact⟨⟩|(refine gB ?_;intros)|refine gT ?_ ?_)|refine gs ?_|refine sxSet132 ?_)
      ·cases ho
       have a7:=hag.at 7 KR
       simp only[U,↓reduceIte,Nat.reduceEqDiff, *] at a7
       clear hag hdep
       simp only[relStep,guardOn,if_true]
       (repeat' first|(with_reducible first|exact⟨⟩|(refine gB ?_;intros)|refine gT ?_ ?_)|refine gs ?_|refine sxSet132 ?_)
      ·cases ho
       have d0:g 38=rv:=hdep ⟨3,.data⟩ (by simp) rfl _ _ rfl rfl
       have d1:g 39=.int .i64 k:=hdep ⟨4,.data⟩ (by simp) rfl _ _ rfl rfl
       clear hag hdep
       simp only[relStep,guardOn,if_true]
       (repeat' first|(with_reducible first|exact⟨⟩|(refine gB ?_;intros)|refine gT ?_ ?_)|refine gs ?_|refine sxSet132 ?_)
      ·cases ho
       have d0:g 40=elemAt rv 2 k:=hdep ⟨5,.data⟩ (by simp) rfl _ _ rfl rfl
       clear hag hdep
       simp only[relStep,guardOn,if_true]
       (repeat' first|(with_reducible first|exact⟨⟩|(refine gB ?_;intros)|refine gT ?_ ?_)|refine gs ?_|refine sxSet132 ?_)
      ·cases ho
       have d0:g 41=replicaV x.replicas[k]:=hdep ⟨6,.data⟩ (by simp) rfl _ _ rfl rfl
       clear hag hdep
       simp only[relStep,guardOn,if_true]
       (repeat' first|(with_reducible first|exact⟨⟩|(refine gB ?_;intros)|refine gT ?_ ?_)|refine gs ?_|refine sxSet132 ?_)
       rename_i b10 w10 n10 k10 s10 q10
       exact⟨_,rfl,k10.2.1 _ k10.2.2.1,FR⟩
      ·omega
     ·intro g9 w9 hx9 hR hag
      have⟨s9,n9,r9,z9⟩:=bg9 hx9
      have d1:g9 36=rows:=hR 1 _ _ (by decide) rfl rfl
      obtain⟨b8,e42,hb8,q8⟩:∃b,g9 42=.slice (some ⟨b,0,none⟩) 1 1∧Blk w9 b 98 (replC x.replicas[k])∧wk.heap.size≤b:=hR 7 _ _ (by decide) rfl rfl
      have a2:=hag.at 2 KR
      have a3:=hag.at 3 KR
      have a4:=hag.at 4 KR
      have a6:=hag.at 6 KR
      have a7:=hag.at 7 KR
      simp only[U,↓reduceIte,Nat.reduceEqDiff, *] at a2 a3 a4 a6 a7
      clear hag hR
      simp only[List.drop_succ_cons,List.drop_zero]
      (repeat' first|(with_reducible first|exact⟨⟩|(refine gB ?_;intros)|refine gT ?_ ?_)|refine gs ?_|refine sxSet132 ?_)
      have hle:(stopF r (x.replicas.take k)).length<1000000000000:=by
       have h4:=stop_len (x.replicas.take k) r
       have h5:=hlen.out.2
       rw[List.length_take] at h4
       omega
      refine appP x.replicas[k] (ok.1 _ FR) hb8 hle FR λv' w11 n11 s11 hown11=>?_
      have o11:=hown11.o
      clear hown11 hb8
      (repeat' first|(with_reducible first|exact⟨⟩|(refine gB ?_;intros)|refine gT ?_ ?_)|refine gs ?_|refine sx ?_)
      refine st_one KR (by simp) o11.2.2.2.1 λw12 n12 k12 s12=>?_
      simp only[List.set_cons_zero,List.set_cons_succ] at k12
      (repeat' first|(with_reducible first|exact⟨⟩|(refine gB ?_;intros)|refine gT ?_ ?_)|refine gs ?_|refine sx ?_)
      refine next_b hk hlt ?_ FR
      (repeat' first|(with_reducible first|exact⟨⟩|(refine gB ?_;intros)|refine gT ?_ ?_)|refine gs ?_|refine sx ?_)
      exact⟨_,k12.2.1 _ k12.2.2.1,o11.1 _ FR⟩
   ·rintro g wk nk sk ck hw ⟨hi,hf,rows,hbk,hown⟩
    simp(maxDischargeDepth:=3) only[U,↓reduceIte,Nat.reduceEqDiff, *] at hf
    rw[take_all] at hown
    have kk:=hbk.bk
    have ok:=hown.o
    clear hbk hown
    (repeat' first|(with_reducible first|exact⟨⟩|(refine gB ?_;intros)|refine gT ?_ ?_)|refine gs ?_|refine sx ?_)
    exact⟨_,rfl,_,_,rfl,Own.more (o1.1 _ FR) FR,Own.more (ok.1 _ FR) FR⟩
end
end Go.Proofs.YtphciegaokdolaaGreatDoor
