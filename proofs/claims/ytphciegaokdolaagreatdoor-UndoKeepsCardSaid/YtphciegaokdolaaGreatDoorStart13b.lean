
/- The layer world: Start. -/
import Derived.Test.YtphciegaokdolaaGreatDoorCut
import Derived.Test.YtphciegaokdolaaGreatDoorRel
namespace Go.Proofs.YtphciegaokdolaaGreatDoor
set_option linter.unusedSimpArgs false
set_option linter.unusedVariables false
open Go Go.RowKit
set_option maxRecDepth 100000
set_option linter.unusedSectionVars false
set_option maxHeartbeats 1000000
theorem sxStart13b0{p q:Prop}(hq:q)(h:p=q:=by first|(simp(maxDischargeDepth:=3) only[↓X,↓Y,↓Q,S1,↓reduceIte,Nat.reduceEqDiff,Nat.reduceAdd,Int.reduceLT,Int.reduceLE,Int.reduceNeg,Int.reduceBEq,Int.reduceBNe,Int.reduceEq,Nat.reduceLeDiff,Nat.reduceMul,Nat.reduceLT, *,replicaV];try exact rfl)|(simp(singlePass:=true) (maxDischargeDepth:=99) only[*,S2,Nat.reduceLT,replicaV];try exact rfl)):p:=h▸hq
theorem ord_trans{a b c:ReplicaD}(h1:ordI a b<0)(h2:ordI b c<0):ordI a c<0:=by
 simp only[ordI,cmpI] at *
 (repeat' split at h1)<;>(repeat' split at h2)<;>(repeat' split)<;>omega
def posI(r:ReplicaD)(l:List ReplicaD):Nat:=(l.takeWhile (ltB r)).length
theorem posI_le(r:ReplicaD)(l:List ReplicaD):posI r l≤l.length:=List.Sublist.length_le (List.takeWhile_sublist _)
theorem takeWhile_pos(p:ReplicaD→Bool):∀l:List ReplicaD,l.takeWhile p=l.take (l.takeWhile p).length∧(∀h:(l.takeWhile p).length<l.length,p l[(l.takeWhile p).length]=false)∧l.dropWhile p=l.drop (l.takeWhile p).length
 |[]=>by simp
 |a::l=>by
  obtain⟨h1,h2,h3⟩:=takeWhile_pos p l
  cases e:p a with
  |true=>
   have e1:(a::l).takeWhile p=a::l.takeWhile p:=by simp[List.takeWhile_cons,e]
   have e2:(a::l).dropWhile p=l.dropWhile p:=by simp[List.dropWhile_cons,e]
   rw[e1,e2]
   refine⟨by rw[List.length_cons,List.take_succ_cons,←h1],λh=>?_,by rw[List.length_cons,List.drop_succ_cons];exact h3⟩
   have:=h2 (by simpa using h)
   simpa using this
  |false=>
   have e1:(a::l).takeWhile p=[]:=by simp[List.takeWhile_cons,e]
   have e2:(a::l).dropWhile p=a::l:=by simp[List.dropWhile_cons,e]
   rw[e1,e2]
   exact⟨rfl,λ_=>by simpa using e,rfl⟩
theorem mem_tw{p:ReplicaD→Bool}{a:ReplicaD}:∀{l:List ReplicaD},a∈l.takeWhile p→p a=true
 |[],h=>by simp at h
 |b::l,h=>by
  rw[List.takeWhile_cons] at h
  split at h
  ·rename_i e
   rcases List.mem_cons.1 h with rfl|h
   ·exact e
   ·exact mem_tw h
  ·cases h
theorem startL_pos(r:ReplicaD)(l:List ReplicaD):startL r l=l.take (posI r l)++r::l.drop (posI r l):=by
 obtain⟨h1,_,h3⟩:=takeWhile_pos (ltB r) l
 unfold startL posI
 rw[←h1,h3]
theorem pos_below{r:ReplicaD}{l:List ReplicaD}(i:Nat)(h:i<l.length)(hi:i<posI r l):ordI l[i] r<0:=by
 have h1:=(takeWhile_pos (ltB r) l).1
 have hm:l[i]∈l.takeWhile (ltB r):=by
  rw[h1]
  exact List.mem_iff_getElem.2 ⟨i,by rw[List.length_take];unfold posI at hi;omega,by rw[List.getElem_take]⟩
 have:=mem_tw hm
 simpa [ltB] using this
theorem pos_above{r:ReplicaD}{l:List ReplicaD}(hs:sortedB l=true):∀(i:Nat) (h:i<l.length),posI r l≤i→¬ordI l[i] r<0:=by
 intro i
 induction i with
 |zero=>
  intro h hi
  have h2:=(takeWhile_pos (ltB r) l).2.1
  have e:posI r l=0:=by omega
  unfold posI at e
  simp only[e] at h2
  simpa [ltB] using h2 h
 |succ i ih=>
  intro h hi
  rcases Nat.lt_or_eq_of_le hi with hlt|he
  ·have h3:=ih (by omega) (by omega)
   have h4:=sortedB_iff.1 hs i h
   exact λh5=>h3 (ord_trans h4 h5)
  ·have h2:=(takeWhile_pos (ltB r) l).2.1
   unfold posI at he
   simp only[he] at h2
   simpa [ltB] using h2 h
abbrev Sg(o:Option Nat)(w w':World):Prop:=(∀b a,Kp b a w→¬o=some b→Kp b a w')∧(∀B a,Bl B a w→(∀b,b<B→¬o=some b)→Bl B a w')∧(∀b,b<w.heap.size→b<w'.heap.size)∧(∀B,B≤w.heap.size→B≤w'.heap.size)
theorem sg_of{o:Option Nat}{w w':World}(h:w.grownBy w' o):Sg o w w':=by
 refine⟨λb a k hne=>⟨k.1,(h.block b k.lt (λe=>hne e.symm)).trans k.2⟩,λB a k hb=>⟨k.1,?_⟩,λ_ k=>Nat.lt_of_lt_of_le k h.size,λ_ k=>Nat.le_trans k h.size⟩
 exact k.2.trans ⟨h.os,h.tape,h.output,h.size,λi hi=>h.block i (Nat.lt_of_lt_of_le hi k.size) (λe=>hb i hi e.symm)⟩
section
variable{w:World}{B B':Nat}{hv rv hv' rv':Value}{x y:WorldD}
theorem worldStart{r:ReplicaD}(hB:B≤w.heap.size)(hx0:WorldR w B hv rv x)(hl1:x.hosts.length≤1000000)(hl2:x.replicas.length≤1000000):CallsV Tryz.prog 79 #[.agg #[hv,rv],replicaV r] w λv w'=>Ext w w'∧∃u,v=.tuple #[u,intV (startE x r)]∧OwnW w.heap.size u w' (startW x r):=by
 have⟨hn,hx⟩:=bg0 w
 have hx':=hx0.sk hB
 have hX:=hx'.2.2.2.2
 have hl1:Hid _:=hl1
 have hl2:Hid _:=hl2
 have hso:=λw' (hb:Bl B w w') (hB':B≤w'.heap.size)=>worldSorted hB' (WorldR.r (hX w' hb))
 have hha:=λw' (hb:Bl B w w') (hB':B≤w'.heap.size)=>worldHas (r:=r) hB' (hX w' hb)
 by_cases hgood:startE x r=0
 ·have hc:sortedB x.replicas=true∧¬r.service<0∧¬r.host<0∧hasB x.replicas r=false∧¬24≤x.replicas.length:=by
   unfold startE at hgood
   split at hgood
   ·rename_i h
    split at hgood
    ·cases hgood
    ·rename_i h2
     split at hgood
     ·cases hgood
     ·rename_i h3
      exact⟨h.1,by omega,by omega,by simpa using h2,h3⟩
   ·cases hgood
  have hW:startW x r=⟨x.hosts,startL r x.replicas⟩:=by simp[startW,hgood]
  rw[hgood,hW,startL_pos]
  obtain⟨c1,c2,c3,c4,c5⟩:=hc
  have hbs:=λw' (hb:Bl B w w') (hB':B≤w'.heap.size)=>bsearchP hB' (WorldR.r (hX w' hb)) (posI_le r x.replicas) pos_below (pos_above c1) hl2.out
  have c2:decide (r.service<0)=false:=by simpa using c2
  have c3:decide (r.host<0)=false:=by simpa using c3
  have c5:decide ((24:Int)≤(x.replicas.length:Int))=false:=by simp;omega
  have hple:Hid _:=posI_le r x.replicas
  clear hgood hW
  (refine callsV_of Tryz.func79 rfl KR KR ?_;rw[Tryz.results79])
  generalize posI r x.replicas=p at *
  (repeat' first|((with_reducible refine wpd_at 8 ?_);refine wpd_hold ?_)|(with_reducible first|exact⟨⟩|(refine gB ?_;intros)|refine gT ?_ ?_)|refine gs ?_|((with_reducible refine at_f 104 ?_);refine ret_k (hso _ FR FR) λ_ _ _=>?_)|((with_reducible refine at_f 131 ?_);refine ret_k (hha _ FR FR) λ_ _ _=>?_)|((with_reducible refine at_f 132 ?_);refine ret_k (hbs _ FR FR) λ_ _ _=>?_)|refine sxStart13b0 ?_)
  rename_i b2 v2 u2 k2 t2 q2 b3 v3 u3 k3 t3 q3 b4 v4 u4 k4 t4 q4 va ua ta vb ub tb w7 n7 s7
  unfold wpdH
  refine wpd_rel2 8 (λiI v w9=>match iI with
   |0=>v=.agg #[hv,rv]
   |1=>OwnH w9 w7.heap.size v x.hosts
   |2=>v=.pointer (some ⟨b2,1,none⟩)
   |3=>v=rv
   |4=>OwnP w9 w7.heap.size v x.replicas
   |5=>v=.int .i64 p
   |6=>v=replicaV r
   |7=>∃b,v=.slice (some ⟨b,0,none⟩) 1 1∧Blk w9 b 98 (replC r)∧w7.heap.size≤b
   |_=>False) (λiI=>iI == 1||iI == 4||iI == 7) ?_ KR KR KR ?_ ?_ ?_
  ·intro iI v w9 hF hR b hb
   match iI,hF,hR with
   |0,hF,_=>exact absurd hF (by decide)
   |1,_,h=>exact(Own.lt h b (by rw[←Own.block h];exact hb)).2
   |2,hF,_=>exact absurd hF (by decide)
   |3,hF,_=>exact absurd hF (by decide)
   |4,_,h=>exact(Own.lt h b (by rw[←Own.block h];exact hb)).2
   |5,hF,_=>exact absurd hF (by decide)
   |6,hF,_=>exact absurd hF (by decide)
   |7,_,⟨b2,e,h1,_⟩=>subst e;obtain rfl:=Option.some.inj hb;exact h1.lt
   |iI+8,_,h=>exact h.elim
  ·intro iI v w1 w2 hR hx9
   match iI,hR with
   |0,h=>exact h
   |1,h=>exact Own.ext h hx9
   |2,h|3,h=>exact h
   |4,h=>exact Own.ext h hx9
   |5,h|6,h=>exact h
   |7,⟨b,e,h1,h2⟩=>exact⟨b,e,h1.ext hx9,h2⟩
  ·intro iI oO hi ho gF w9 hx9 hdep hag
   have⟨s9,n9,r9,z9⟩:=bg9 hx9
   rcases iI with _|_|_|_|_|_|_|_|iI
   ·cases ho
    have a2:=hag.at 2 KR
    simp only[S5,↓reduceIte,Nat.reduceEqDiff,initF, *] at a2
    clear hag hdep
    refine⟨λ_=>?_,λhF=>absurd hF (by decide)⟩
    refine relStep_off rfl ?_
    (repeat' first|(with_reducible first|exact⟨⟩|(refine gB ?_;intros)|refine gT ?_ ?_)|refine gs ?_|refine sxStart13b0 ?_)
   ·cases ho
    have d0:(gF 42)=.agg #[hv,rv]:=hdep ⟨0,.data⟩ (by simp) rfl _ _ rfl rfl
    clear hag hdep
    refine⟨λhF=>absurd hF (by decide),λ_=>?_⟩
    refine relStep_off rfl ?_
    (repeat' first|(with_reducible first|exact⟨⟩|(refine gB ?_;intros)|refine gT ?_ ?_)|refine gs ?_|refine sxStart13b0 ?_)
    refine CallsV.mono (worldHosts (B:=B) FR (hX _ FR) hl1.out) λv w10 hh=>⟨hh.1,Own.more hh.2 z9,λb hb=>(Own.lt hh.2 b (by rw[←Own.block hh.2];exact hb)).1⟩
   ·cases ho
    have a2:=hag.at 2 KR
    simp only[S5,↓reduceIte,Nat.reduceEqDiff,initF, *] at a2
    clear hag hdep
    refine⟨λ_=>?_,λhF=>absurd hF (by decide)⟩
    refine relStep_off rfl ?_
    (repeat' first|(with_reducible first|exact⟨⟩|(refine gB ?_;intros)|refine gT ?_ ?_)|refine gs ?_|refine sxStart13b0 ?_)
   ·cases ho
    have d2:(gF 44)=.pointer (some ⟨b2,1,none⟩):=hdep ⟨2,.data⟩ (by simp) rfl _ _ rfl rfl
    clear hag hdep
    refine⟨λ_=>?_,λhF=>absurd hF (by decide)⟩
    refine relStep_off rfl ?_
    (repeat' first|(with_reducible first|exact⟨⟩|(refine gB ?_;intros)|refine gT ?_ ?_)|refine gs ?_|refine sxStart13b0 ?_)
   ·cases ho
    have d3:(gF 45)=rv:=hdep ⟨3,.data⟩ (by simp) rfl _ _ rfl rfl
    clear hag hdep
    refine⟨λhF=>absurd hF (by decide),λ_=>?_⟩
    refine relStep_off rfl ?_
    (repeat' first|(with_reducible first|exact⟨⟩|(refine gB ?_;intros)|refine gT ?_ ?_)|refine gs ?_|refine sxStart13b0 ?_)
    refine CallsV.mono (slicesCloneP (B:=B) FR (WorldR.r (hX _ FR)) hl2.out) λv w10 hh=>⟨hh.1,Own.more hh.2 z9,λb hb=>(Own.lt hh.2 b (by rw[←Own.block hh.2];exact hb)).1⟩
   ·cases ho
    have a6:=hag.at 6 KR
    simp only[S5,↓reduceIte,Nat.reduceEqDiff,initF, *] at a6
    clear hag hdep
    refine⟨λ_=>?_,λhF=>absurd hF (by decide)⟩
    refine relStep_off rfl ?_
    (repeat' first|(with_reducible first|exact⟨⟩|(refine gB ?_;intros)|refine gT ?_ ?_)|refine gs ?_|refine sxStart13b0 ?_)
   ·cases ho
    have a3:=hag.at 3 KR
    simp only[S5,↓reduceIte,Nat.reduceEqDiff,initF, *] at a3
    clear hag hdep
    refine⟨λ_=>?_,λhF=>absurd hF (by decide)⟩
    refine relStep_off rfl ?_
    (repeat' first|(with_reducible first|exact⟨⟩|(refine gB ?_;intros)|refine gT ?_ ?_)|refine gs ?_|refine sxStart13b0 ?_)
   ·cases ho
    have d6:(gF 48)=replicaV r:=hdep ⟨6,.data⟩ (by simp) rfl _ _ rfl rfl
    clear hag hdep
    refine⟨λhF=>absurd hF (by decide),λ_=>?_⟩
    refine relStep_off rfl ?_
    (repeat' first|(with_reducible first|exact⟨⟩|(refine gB ?_;intros)|refine gT ?_ ?_)|refine gs ?_|refine sxStart13b0 ?_)
    first
     |(rename_i b10 w10 n10 k10 s10 q10;exact⟨⟨_,rfl,k10.2.1 _ k10.2.2.1,FR⟩,λb hb=>by obtain rfl:=Option.some.inj hb;exact FR⟩)
     |(rename_i b10 w10 n10 k10 s10 q10 l10;exact⟨⟨_,rfl,k10.2.1 _ k10.2.2.1,FR⟩,λb hb=>by obtain rfl:=Option.some.inj hb;exact FR⟩)
   ·omega
  ·intro g9 w9 hx9 hR hDis hag
   have⟨s9,n9,r9,z9⟩:=bg9 hx9
   have d1:OwnH w9 w7.heap.size (g9 43) x.hosts:=hR 1 _ _ (by decide) rfl rfl
   have d4:OwnP w9 w7.heap.size (g9 46) x.replicas:=hR 4 _ _ (by decide) rfl rfl
   have d5:(g9 47)=.int .i64 p:=hR 5 _ _ (by decide) rfl rfl
   have d7:∃b,(g9 49)=.slice (some ⟨b,0,none⟩) 1 1∧Blk w9 b 98 (replC r)∧w7.heap.size≤b:=hR 7 _ _ (by decide) rfl rfl
   obtain⟨b7,e7,hb7,q7⟩:=d7
   have k7:=hb7.bk
   have nw7:=Nw.of q7
   have a4:=hag.at 4 KR
   have a36:=hag.at 36 KR
   simp only[S5,↓reduceIte,Nat.reduceEqDiff,initF, *] at a4 a36
   have dis14:=hDis 1 4 _ _ _ _ (by decide) (by decide) (by decide) rfl rfl rfl rfl rfl rfl
   have dis17:=hDis 1 7 _ _ _ _ (by decide) (by decide) (by decide) rfl rfl rfl rfl rfl rfl
   have dis41:=hDis 4 1 _ _ _ _ (by decide) (by decide) (by decide) rfl rfl rfl rfl rfl rfl
   have dis47:=hDis 4 7 _ _ _ _ (by decide) (by decide) (by decide) rfl rfl rfl rfl rfl rfl
   have dis71:=hDis 7 1 _ _ _ _ (by decide) (by decide) (by decide) rfl rfl rfl rfl rfl rfl
   have dis74:=hDis 7 4 _ _ _ _ (by decide) (by decide) (by decide) rfl rfl rfl rfl rfl rfl
   clear hag hR hDis
   simp only[List.drop_succ_cons,List.drop_zero]
   have oP:=d4.o
   (repeat' first|(with_reducible first|exact⟨⟩|(refine gB ?_;intros)|refine gT ?_ ?_)|refine gs ?_|refine sx ?_)
   refine CallsV.mono (insertP (B:=w7.heap.size) FR d4 hb7 (dis74 b7 (by rw[e7];rfl)) hple.out hl2.out) ?_
   rintro v' w10 ⟨hg,hown⟩
   have hH:OwnH w10 w7.heap.size (g9 43) x.hosts:=d1.keep λb hb=>hg.block b (d1.lt b hb).2 (λe=>dis14 b (by rw[d1.block];exact hb) e.symm)
   have sg:=sg_of hg
   have n10:Now w10:=trivial
   have oH:=hH.o
   have oQ:=hown.o
   have hb9:Bl w.heap.size w w9:=by
    have hb00:Bl w.heap.size w w:=Bl.refl (Nat.le_refl _)
    exact FR
   have hle7:w.heap.size≤w7.heap.size:=FR
   have hb10:Bl w.heap.size w w10:=sg.2.1 _ _ hb9 λb hb=>oP.2.2.1 b (Nat.lt_of_lt_of_le hb hle7)
   clear hH hown d1 d4 dis14 dis17 dis41 dis47 dis71 dis74 hg
   (repeat' first|(with_reducible first|exact⟨⟩|(refine gB ?_;intros)|refine gT ?_ ?_)|refine gs ?_|refine sx ?_)
   rename_i w11 n11 k11 s11
   have hb11:Bl w.heap.size w w11:=FR
   exact⟨hb11.toExt,_,rfl,_,_,rfl,Own.more (oH.1 _ FR) FR,Own.more (oQ.1 _ FR) FR⟩
 ·have hW:startW x r=noW:=by simp[startW,hgood]
  rw[hW]
  clear hW
  rcases Bool.eq_false_or_eq_true (sortedB x.replicas) with c1|c1
  ·by_cases c2:r.service<0
   ·have hE:startE x r=1:=by unfold startE;simp[c1]<;>omega
    rw[hE]
    clear hE hgood
    (refine callsV_of Tryz.func79 rfl KR KR ?_;rw[Tryz.results79])
    (repeat' first|(with_reducible first|exact⟨⟩|(refine gB ?_;intros)|refine gT ?_ ?_)|refine gs ?_|((with_reducible refine at_f 104 ?_);refine ret_k (hso _ FR FR) λ_ _ _=>?_)|((with_reducible refine at_f 131 ?_);refine ret_k (hha _ FR FR) λ_ _ _=>?_)|refine sxStart13b0 ?_)
    exact⟨_,rfl,OwnW.none _ _⟩
   ·by_cases c3:r.host<0
    ·have hE:startE x r=1:=by unfold startE;simp[c1]<;>omega
     rw[hE]
     clear hE hgood
     (refine callsV_of Tryz.func79 rfl KR KR ?_;rw[Tryz.results79])
     (repeat' first|(with_reducible first|exact⟨⟩|(refine gB ?_;intros)|refine gT ?_ ?_)|refine gs ?_|((with_reducible refine at_f 104 ?_);refine ret_k (hso _ FR FR) λ_ _ _=>?_)|((with_reducible refine at_f 131 ?_);refine ret_k (hha _ FR FR) λ_ _ _=>?_)|refine sxStart13b0 ?_)
     exact⟨_,rfl,OwnW.none _ _⟩
    ·rcases Bool.eq_false_or_eq_true (hasB x.replicas r) with c4|c4
     ·have c2':decide (r.service<0)=false:=by simpa using c2
      have c3':decide (r.host<0)=false:=by simpa using c3
      have hE:startE x r=6:=by unfold startE;simp[c1,c4] ;omega
      rw[hE]
      clear hE hgood
      (refine callsV_of Tryz.func79 rfl KR KR ?_;rw[Tryz.results79])
      (repeat' first|(with_reducible first|exact⟨⟩|(refine gB ?_;intros)|refine gT ?_ ?_)|refine gs ?_|((with_reducible refine at_f 104 ?_);refine ret_k (hso _ FR FR) λ_ _ _=>?_)|((with_reducible refine at_f 131 ?_);refine ret_k (hha _ FR FR) λ_ _ _=>?_)|refine sxStart13b0 ?_)
      exact⟨_,rfl,OwnW.none _ _⟩
     ·have c5:24≤x.replicas.length:=by
       refine Nat.le_of_not_lt λh=>hgood ?_
       have h2:¬24≤x.replicas.length:=by omega
       unfold startE
       rw[if_pos ⟨c1,by omega,by omega⟩,if_neg (by simp[c4]),if_neg h2]
      have c2':decide (r.service<0)=false:=by simpa using c2
      have c3':decide (r.host<0)=false:=by simpa using c3
      have hE:startE x r=9:=by
       unfold startE
       rw[if_pos ⟨c1,by omega,by omega⟩,if_neg (by simp[c4]),if_pos c5]
      rw[hE]
      have c5':decide ((24:Int)≤(x.replicas.length:Int))=true:=by simp;omega
      clear hE hgood c5
      (refine callsV_of Tryz.func79 rfl KR KR ?_;rw[Tryz.results79])
      (repeat' first|(with_reducible first|exact⟨⟩|(refine gB ?_;intros)|refine gT ?_ ?_)|refine gs ?_|((with_reducible refine at_f 104 ?_);refine ret_k (hso _ FR FR) λ_ _ _=>?_)|((with_reducible refine at_f 131 ?_);refine ret_k (hha _ FR FR) λ_ _ _=>?_)|refine sxStart13b0 ?_)
      exact⟨_,rfl,OwnW.none _ _⟩
  ·have hE:startE x r=1:=by unfold startE;simp[c1]<;>omega
   rw[hE]
   clear hE hgood
   (refine callsV_of Tryz.func79 rfl KR KR ?_;rw[Tryz.results79])
   (repeat' first|(with_reducible first|exact⟨⟩|(refine gB ?_;intros)|refine gT ?_ ?_)|refine gs ?_|((with_reducible refine at_f 104 ?_);refine ret_k (hso _ FR FR) λ_ _ _=>?_)|((with_reducible refine at_f 131 ?_);refine ret_k (hha _ FR FR) λ_ _ _=>?_)|refine sxStart13b0 ?_)
   exact⟨_,rfl,OwnW.none _ _⟩
end
end Go.Proofs.YtphciegaokdolaaGreatDoor
