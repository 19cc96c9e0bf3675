/- The document's answer, layer 21: Check. -/
import Derived.Test.YtphciegaokdolaaGreatDoorKeepO24
import Derived.Test.YtphciegaokdolaaGreatDoorLawA24
namespace Go.Proofs.YtphciegaokdolaaGreatDoor
set_option linter.unusedSimpArgs false
set_option linter.unusedVariables false
open Go Go.RowKit
set_option maxRecDepth 100000
set_option linter.unusedSectionVars false
set_option maxHeartbeats 4000000
theorem sxKeepQ240{p q:Prop}(hq:q)(h:p=q:=by first|(simp(maxDischargeDepth:=3) only[↓X,↓Y,↓Q,S1,↓reduceIte,Nat.reduceEqDiff,Nat.reduceAdd,Int.reduceLT,Int.reduceLE,Int.reduceNeg,Int.reduceBEq,Int.reduceBNe,Int.reduceEq,Nat.reduceLeDiff,Nat.reduceMul,Nat.reduceLT, *,siteC];try exact rfl)|(simp(singlePass:=true) (maxDischargeDepth:=99) only[*,S2,Nat.reduceLT,siteC];try exact rfl)):p:=h▸hq
theorem sxKeepQ242{p q:Prop}(hq:q)(h:p=q:=by first|(simp(maxDischargeDepth:=3) only[↓X,↓Y,↓Q,S1,↓reduceIte,Nat.reduceEqDiff,Nat.reduceAdd,Int.reduceLT,Int.reduceLE,Int.reduceNeg,Int.reduceBEq,Int.reduceBNe,Int.reduceEq,Nat.reduceLeDiff,Nat.reduceMul,Nat.reduceLT, *,List.take_zero,List.all_nil,List.any_nil];try exact rfl)|(simp(singlePass:=true) (maxDischargeDepth:=99) only[*,S2,Nat.reduceLT,List.take_zero,List.all_nil,List.any_nil];try exact rfl)):p:=h▸hq
theorem sxKeepQ243{p q:Prop}(hq:q)(h:p=q:=by first|(simp(maxDischargeDepth:=3) only[↓X,↓Y,↓Q,S1,↓reduceIte,Nat.reduceEqDiff,Nat.reduceAdd,Int.reduceLT,Int.reduceLE,Int.reduceNeg,Int.reduceBEq,Int.reduceBNe,Int.reduceEq,Nat.reduceLeDiff,Nat.reduceMul,Nat.reduceLT, *,srvV,srvC];try exact rfl)|(simp(singlePass:=true) (maxDischargeDepth:=99) only[*,S2,Nat.reduceLT,srvV,srvC];try exact rfl)):p:=h▸hq
theorem five24{f:List Value}(h:f.length=5):∃a b c d e,f=[a,b,c,d,e]:=by
 match f,h with
 |[a,b,c,d,e],_=>exact⟨a,b,c,d,e,rfl⟩
section
variable{w:World}{B:Nat}{u:SiteVs}{sd:SiteD}{wv sv av hv rv:Value}{vs:List Value}{l:List SrvV}{p:PlanD}{y:WorldD}
theorem ref21Check{e:Int}(hB:B≤w.heap.size)(hs:SiteR w B u sd)(hl:WishR w B wv l)(hpl:PlanR w B sv av vs p)(hx0:WorldR w B hv rv y)(he:planErr sd (l.map (·.x)) p=e) :
 CallsV Tryz.prog 22 #[.agg (siteC u sd).toArray,.agg #[wv],.agg #[hv,rv],.agg #[sv,av]] w λr w'=>Ext w w'∧∃(f:List Value) (b:Bool) (E:Int),r=.tuple #[.agg f.toArray,.bool b,intV E]∧(f.length=5∧∀v∈f,v.oneCell'=true)∧(E=0→b=true→∀d∈idealsL p,heldB sd (l.map (·.x)) p y d):=by
 have⟨hn,hx⟩:=bg0 w
 have hs':=hs.sk hB
 have hl':=hl.sk hB
 have hp':=hpl.sk hB
 have hx':=hx0.sk hB
 have hS:=hs'.2.2.2.2.2.2
 have hW:=hl'.2.2
 have hP:=hp'.2.2.2.2.2.2
 have hX:=hx'.2.2.2.2
 have hbw:Bl B w w:=Bl.refl hB
 have hsv1:=hpl.s.one
 have hav1:=hp'.2.2.2.2.1
 have hh1:=hx0.h.one
 have hr1:=hx0.r.one
 have hids:=λw' (h1:Bl B w w') (h3:B≤w'.heap.size)=>ref20Ideals h3 (hS w' h1) (hW w' h1) (hP w' h1) he
 replace hids:Hid _:=hids
 have hlk:=λ(h0:e=0) w' (h1:Bl B w w') (h3:B≤w'.heap.size) d (hd:d∈idealsL p)=>ref21look (y:=y) h3 (hS w' h1) (hW w' h1) (hP w' h1) (hX w' h1) (he.trans h0) hd
 replace hlk:Hid _:=hlk
 clear hs' hl' hp' hx' hpl hx0 hs hl he
 (refine callsV_of Tryz.func22 rfl KR KR ?_;rw[Tryz.results22])
 (repeat' first|(with_reducible first|exact⟨⟩|(refine gB ?_;intros)|refine gT ?_ ?_)|refine gs ?_|refine sxKeepQ240 ?_)
 rename_i b4 w4 n4 k4 s4 q4 b5 w5 n5 k5 s5 q5 b6 w6 n6 k6 s6 q6 b7 w7 n7 k7 s7 q7 b8 w8 n8 k8 s8 q8
 refine call_k (hids.out _ FR FR) ?_
 rintro _ w1 n1 s1 ⟨ov,rfl,hov⟩
 have ov1:=hov.one
 by_cases h0:e=0
 rotate_left
 ·have hE1:(e == 0)=false:=by simpa using h0
  have hE2:(e != 0)=true:=by simpa using h0
  clear hov hlk hids
  (repeat' first|(with_reducible first|exact⟨⟩|(refine gB ?_;intros)|refine gT ?_ ?_)|refine gs ?_|refine sx ?_)
  exact⟨[_,_,_,_,_],false,e,rfl,⟨rfl,by simp[Value.oneCell']⟩,λh=>absurd h h0⟩
 subst h0
 simp only[if_true] at hov
 have KO:=(hov.sl1 (f:=natV)).k (Nat.le_refl _)
 have hm:=(hov.sl1 (f:=natV)).max_
 have e1:Bl w1.heap.size w1 w1:=Bl.refl (Nat.le_refl _)
 have hlk':=hlk.out rfl
 replace hlk':Hid _:=hlk'
 clear hov hids hlk
 cases hv0:validB sd (l.map (·.x)) y
 ·(repeat' first|(with_reducible first|exact⟨⟩|(refine gB ?_;intros)|refine gT ?_ ?_)|refine gs ?_|((with_reducible refine at_f 45 ?_);refine ret_k (ref13Valid (B:=B) FR (hS _ FR) (hW _ FR) (hX _ FR)) λ_ _ _=>?_)|refine sxKeepQ240 ?_)
  exact⟨[_,_,_,_,_],false,1,rfl,⟨rfl,by simp[Value.oneCell']⟩,λh=>absurd h (by decide)⟩
 (repeat' first|(with_reducible first|exact⟨⟩|(refine gB ?_;intros)|refine gT ?_ ?_)|refine gs ?_|((with_reducible refine at_f 45 ?_);refine ret_k (ref13Valid (B:=B) FR (hS _ FR) (hW _ FR) (hX _ FR)) λ_ _ _=>?_)|refine sxKeepQ240 ?_)
 refine loop_k ((idealsL p).length) (λg0 k g _=>g 13=.int .i64 k∧(g 4=g0 4∧g 5=g0 5∧g 6=g0 6∧g 7=g0 7∧g 8=g0 8∧g 11=g0 11∧g 66=g0 66)∧Hid (∀i (h:i<(idealsL p).length),i<k→heldB sd (l.map (·.x)) p y (idealsL p)[i])) KR (hm) ?_ ?_ ?_
 ·(repeat' first|(with_reducible first|exact⟨⟩|(refine gB ?_;intros)|refine gT ?_ ?_)|refine gs ?_|refine sxKeepQ242 ?_)
  exact λi h hi=>absurd hi (Nat.not_lt_zero _)
 ·rintro k m g wk hk hlt _ _ _ hw ⟨hi,hf,hp⟩
  simp(maxDischargeDepth:=3) only[U,↓reduceIte,Nat.reduceEqDiff, *] at hf
  have hmem:(idealsL p)[k]∈idealsL p:=List.getElem_mem hlt
  have hlk9:=λw' (h1:Bl B w w') (h3:B≤w'.heap.size)=>hlk'.out w' h1 h3 _ hmem
  have hnx:Hid (heldB sd (l.map (·.x)) p y (idealsL p)[k]→∀i (h:i<(idealsL p).length),i<k+1→heldB sd (l.map (·.x)) p y (idealsL p)[i]):=λh9 i h hi=>by
   rcases Nat.lt_succ_iff_lt_or_eq.1 hi with h5|rfl
   ·exact hp.out i h h5
   ·exact h9
  generalize heldB sd (l.map (·.x)) p y (idealsL p)[k]=HP at *
  clear hp
  (repeat' first|((with_reducible refine wpd_at 9 ?_);refine wpd_hold ?_)|(with_reducible first|exact⟨⟩|(refine gB ?_;intros)|refine gT ?_ ?_)|refine gs ?_|refine sx ?_)
  unfold wpdH
  refine wpd_relS 14 [(13,12)] (λiI s v w9=>match iI with
   |0=>v=.agg (siteC u sd).toArray
   |1=>v=.agg #[wv]
   |2=>v=.agg #[hv,rv]
   |3=>v=.agg #[sv,av]
   |4=>v=ov
   |5=>v=.int .i64 (k:Nat)
   |6=>v=elemAt ov 1 k
   |7=>v=.int .i64 ((idealsL p)[k]:Nat)
   |8=>∃(f:List Value) (b:Bool),v=.tuple #[.agg f.toArray,.bool b]∧(f.length=5∧∀v∈f,v.oneCell'=true)∧(b=true→HP)
   |9=>∃(f:List Value) (b:Bool),v=.tuple #[.agg f.toArray,.bool b]∧(f.length=5∧∀v∈f,v.oneCell'=true)∧(b=true→HP)
   |10=>∃f:List Value,v=.agg f.toArray∧(f.length=5∧∀v∈f,v.oneCell'=true)
   |11=>∃b:Bool,v=.bool b∧(b=true→HP)
   |12=>∃b,v=.pointer (some ⟨b,0,none⟩)∧wk.heap.size≤b∧(s=false→Blk w9 b 66 [.int .i64 0,.int .i64 0,.int .u8 0,.int .i64 0,.int .i64 0])∧(s=true→∃f:List Value,Blk w9 b 66 f∧(f.length=5∧∀v∈f,v.oneCell'=true))
   |13=>True
   |_=>False) KR KR KR KR ?_ ?_ ?_
  ·intro iI s v w1 w2 hR hx9
   match iI,hR with
   |0,h|1,h|2,h|3,h|4,h|5,h|6,h|7,h|8,h|9,h|10,h|11,h=>exact h
   |12,⟨b,e,h1,h2,h3⟩=>exact⟨b,e,h1,λhs=>(h2 hs).ext hx9,λhs=>(λh=>(let ⟨f,k,e⟩:=h;⟨f,k.ext hx9,e⟩)) (h3 hs)⟩
   |13,h=>exact h
  ·intro iI oO hi ho gF w9 S9 hx9 hdep hag
   have⟨s9,n9,r9,z9⟩:=bg9 hx9
   rcases iI with _|_|_|_|_|_|_|_|_|_|_|_|_|_|iI
   cases ho
   have a4:=hag.at 4 KR
   simp only[S5,↓reduceIte,Nat.reduceEqDiff,initF, *] at a4
   clear hag hdep
   refine rO ?_
   rotate_left
   cases ho
   have a5:=hag.at 5 KR
   simp only[S5,↓reduceIte,Nat.reduceEqDiff,initF, *] at a5
   clear hag hdep
   refine rO ?_
   rotate_left
   cases ho
   have a6:=hag.at 6 KR
   simp only[S5,↓reduceIte,Nat.reduceEqDiff,initF, *] at a6
   clear hag hdep
   refine rO ?_
   rotate_left
   cases ho
   have a7:=hag.at 7 KR
   simp only[S5,↓reduceIte,Nat.reduceEqDiff,initF, *] at a7
   clear hag hdep
   refine rO ?_
   rotate_left
   cases ho
   have a11:=hag.at 11 KR
   simp only[S5,↓reduceIte,Nat.reduceEqDiff,initF, *] at a11
   clear hag hdep
   refine rO ?_
   rotate_left
   cases ho
   have a13:=hag.at 13 KR
   simp only[S5,↓reduceIte,Nat.reduceEqDiff,initF, *] at a13
   clear hag hdep
   refine rO ?_
   rotate_left
   cases ho
   have d4:(gF 44)=ov:=hdep ⟨4,.data⟩ (by simp) rfl _ _ rfl rfl
   have d5:(gF 45)=.int .i64 (k:Nat):=hdep ⟨5,.data⟩ (by simp) rfl _ _ rfl rfl
   clear hag hdep
   refine rO ?_
   rotate_left
   cases ho
   have d6:(gF 46)=elemAt ov 1 k:=hdep ⟨6,.data⟩ (by simp) rfl _ _ rfl rfl
   clear hag hdep
   refine rO ?_
   rotate_left
   cases ho
   have d0:(gF 40)=.agg (siteC u sd).toArray:=hdep ⟨0,.data⟩ (by simp) rfl _ _ rfl rfl
   have d1:(gF 41)=.agg #[wv]:=hdep ⟨1,.data⟩ (by simp) rfl _ _ rfl rfl
   have d2:(gF 42)=.agg #[hv,rv]:=hdep ⟨2,.data⟩ (by simp) rfl _ _ rfl rfl
   have d3:(gF 43)=.agg #[sv,av]:=hdep ⟨3,.data⟩ (by simp) rfl _ _ rfl rfl
   have d7:(gF 47)=.int .i64 ((idealsL p)[k]:Nat):=hdep ⟨7,.data⟩ (by simp) rfl _ _ rfl rfl
   clear hag hdep
   refine rO ?_
   rotate_left
   cases ho
   obtain⟨f8,b8',e8,hf8,hb8⟩:=hdep ⟨8,.data⟩ (by simp) rfl _ _ rfl rfl
   clear hag hdep
   refine rO ?_
   rotate_left
   cases ho
   obtain⟨f9,b9',e9,hf9,hb9⟩:=hdep ⟨9,.data⟩ (by simp) rfl _ _ rfl rfl
   clear hag hdep
   refine rO ?_
   rotate_left
   cases ho
   obtain⟨f9,b9',e9,hf9,hb9⟩:=hdep ⟨9,.data⟩ (by simp) rfl _ _ rfl rfl
   clear hag hdep
   refine rO ?_
   rotate_left
   cases ho
   clear hag hdep
   refine rO ?_
   rotate_left
   cases ho
   obtain⟨b12,e12,q12,hz12,_⟩:=hdep ⟨12,.data⟩ (by simp) rfl _ _ rfl rfl
   obtain⟨f10,e10,hf10⟩:=hdep ⟨10,.data⟩ (by simp) rfl _ _ rfl rfl
   obtain⟨a0,a1,a2,a3,a4,rfl⟩:=five24 hf10.1
   have ha:=hf10.2
   simp only[List.mem_cons,List.not_mem_nil,or_false,forall_eq_or_imp,forall_eq] at ha
   obtain⟨t0,t1,t2,t3,t4⟩:=ha
   clear hag hdep
   refine⟨λh=>by simp[alL] at h,λa9 pa da hal hS9 hpa hda=>?_⟩
   obtain rfl:12=a9:=by simpa [alL] using hal
   obtain rfl:=Option.some.inj hpa
   obtain rfl:=Option.some.inj hda
   have hz:=hz12 hS9
   clear hal hpa hda hz12
   refine relStep_off rfl ?_
   rotate_left
   ·omega
   all_goals (repeat' first|(with_reducible first|exact⟨⟩|(refine gB ?_;intros)|refine gT ?_ ?_)|refine gs ?_|refine sxKeepQ240 ?_)
   all_goals first
    |(refine CallsV.mono (hlk9 _ FR FR) λv w10 hh=>hh)
    |(exact⟨f8,b8',rfl,hf8,hb8⟩)
    |(exact⟨f9,rfl,hf9⟩)
    |(exact⟨b9',rfl,hb9⟩)
    |(rename_i b10 w10 n10 k10 s10 q10;exact⟨_,rfl,FR,λ_=>k10.2.1 _ k10.2.2.1,λh=>absurd h (by decide)⟩)
    |(
     refine stT_agg (w0:=w9) (vs:=[a0,a1,a2,a3,a4]) hz rfl KR rfl (by simp[t0,t1,t2,t3,t4]) λw10 hb10 hc=>⟨b12,hc,q12,⟨b12,(by first|exact e12|rfl),q12,λh=>absurd h (by decide),λ_=>⟨_,hb10,hf10⟩⟩,?_⟩
     intro iI s v hne hR
     match iI,hR with
     |0,h|1,h|2,h|3,h|4,h|5,h|6,h|7,h|13,h|8,h|9,h|10,h|11,h=>exact h
     |12,_=>exact absurd rfl hne)
  ·intro g9 w9 hx9 hR hag
   have⟨s9,n9,r9,z9⟩:=bg9 hx9
   have d11:∃b:Bool,(g9 50)=.bool b∧(b=true→HP):=hR 11 _ _ (by decide) rfl rfl
   obtain⟨b11',e11',hb11⟩:=d11
   have d12:∃b,(g9 14)=.pointer (some ⟨b,0,none⟩)∧wk.heap.size≤b∧(true=false→Blk w9 b 66 [.int .i64 0,.int .i64 0,.int .u8 0,.int .i64 0,.int .i64 0])∧(true=true→∃f:List Value,Blk w9 b 66 f∧(f.length=5∧∀v∈f,v.oneCell'=true)):=hR 12 _ _ (by decide) rfl rfl
   obtain⟨b12,e12,q12,_,f12⟩:=d12
   replace f12:=f12 rfl
   have nw12:=Nw.of q12
   obtain⟨fA,kA,hfA⟩:=f12
   have KA:=kA.bk
   have a4:=hag.at 4 KR
   have a5:=hag.at 5 KR
   have a6:=hag.at 6 KR
   have a7:=hag.at 7 KR
   have a8:=hag.at 8 KR
   have a11:=hag.at 11 KR
   have a13:=hag.at 13 KR
   have a66:=hag.at 66 KR
   simp only[S5,↓reduceIte,Nat.reduceEqDiff,initF, *] at a4 a5 a6 a7 a8 a11 a13 a66
   clear hag hR
   simp only[List.drop_succ_cons,List.drop_zero]
   obtain⟨c0,c1,c2,c3,c4,rfl⟩:=five24 hfA.1
   have hcs:=hfA.2
   simp only[List.mem_cons,List.not_mem_nil,or_false,forall_eq_or_imp,forall_eq] at hcs
   obtain⟨o0,o1,o2,o3,o4⟩:=hcs
   cases b11'
   ·(repeat' first|(with_reducible first|exact⟨⟩|(refine gB ?_;intros)|refine gT ?_ ?_)|refine gs ?_|refine sx ?_)
    exact⟨[_,_,_,_,_],false,0,rfl,hfA,by simp⟩
   ·have hI:Hid _:=hnx.out (hb11 rfl)
    (repeat' first|(with_reducible first|exact⟨⟩|(refine gB ?_;intros)|refine gT ?_ ?_)|refine gs ?_|refine sx ?_)
    refine next_k hk hlt ?_ FR
    (repeat' first|(with_reducible first|exact⟨⟩|(refine gB ?_;intros)|refine gT ?_ ?_)|refine gs ?_|refine sx ?_)
    all_goals first|exact hI.out|rfl|(unfold initF;rfl)|simp[initF]
 ·rintro g wk _ _ _ ⟨hi,hf,hp⟩
  simp(maxDischargeDepth:=3) only[U,↓reduceIte,Nat.reduceEqDiff, *] at hf
  (repeat' first|(with_reducible first|exact⟨⟩|(refine gB ?_;intros)|refine gT ?_ ?_)|refine gs ?_|refine sx ?_)
  exact⟨[_,_,_,_,_],true,0,rfl,⟨rfl,by simp[Value.oneCell']⟩,λ_ _ d hd=>by
   obtain⟨i,hi,rfl⟩:=List.getElem_of_mem hd
   exact hp.out i hi hi⟩
end
theorem keeps_facts{e x:Int}{s:SiteD}{wl:List ServiceD}{p:PlanD}{y:WorldD}(he:planErr s wl p=e)(h0:wldE e s wl p y x=0)(hf:flashB p.steps (lastL e s wl p y x)=true)(hfw:∀i,i<wl.length→(srvA wl i).firmware=0)(hck:∀d∈idealsL p,heldB s wl p y d) :
 ∀v∈worldsL e s wl p y x,keptB (brokenB s wl y) (brokenB s wl v)=true:=by
 obtain⟨ha,hv,hr⟩:=wldE_zero h0
 obtain⟨_,_,hchk,_,hLlt,_⟩:=seq_facts he ha
 unfold lastL at hf
 rw[if_pos h0] at hf
 have e1:wldW e s wl p y x=lastW (runL s wl p.steps (seqF p x.toNat 4096 0) y).1 y:=by rw[wldW,if_pos h0]
 have e2:backL e s wl p y x=backS s wl p.steps (y::(runL s wl p.steps (seqF p x.toNat 4096 0) y).1) (xsL (seqF p x.toNat 4096 0)):=by rw[backL,if_pos h0]
 have hfl:∀i (hi:i<(seqF p x.toNat 4096 0).length),lastB s wl ((y::(runL s wl p.steps (seqF p x.toNat 4096 0) y).1).getD i noW) (stA p.steps (seqF p x.toNat 4096 0)[i])=true→(stA p.steps (seqF p x.toNat 4096 0)[i]).kind=7:=λi hi hb=>by
  have hm:(i,(seqF p x.toNat 4096 0)[i])∈xsL (seqF p x.toNat 4096 0):=List.mem_map.2 ⟨i,List.mem_reverse.2 (List.mem_range.2 hi),by rw[List.getD_eq_getElem?_getD,List.getElem?_eq_getElem hi];rfl⟩
  have h2:(seqF p x.toNat 4096 0)[i]∈lastS s wl p.steps (y::(runL s wl p.steps (seqF p x.toNat 4096 0) y).1) (xsL (seqF p x.toNat 4096 0)):=List.mem_map.2 ⟨_,List.mem_filter.2 ⟨hm,hb⟩,rfl⟩
  have h3:(((seqF p x.toNat 4096 0)[i]:Nat):Int)∈sortI (intL (lastS s wl p.steps (y::(runL s wl p.steps (seqF p x.toNat 4096 0) y).1) (xsL (seqF p x.toNat 4096 0)))):=List.mem_mergeSort.2 (List.mem_map.2 ⟨_,h2,rfl⟩)
  have h4:=List.all_eq_true.1 hf _ h3
  simp only[Bool.and_eq_true,decide_eq_true_eq,Int.toNat_natCast,beq_iff_eq] at h4
  exact h4.2
 have hk:=keeps24 (x:=x.toNat) rfl hchk hr rfl hv hfl hfw hck
 intro v hvm
 unfold worldsL worldsQ at hvm
 rw[if_pos h0] at hvm
 split at hvm
 ·rw[e1,e2] at hvm
  exact hk v hvm
 ·cases hvm

theorem worlds_zero{e x:Int}{s:SiteD}{wl:List ServiceD}{p:PlanD}{y:WorldD}(he:planErr s wl p=e)(h0:wldE e s wl p y x=0)(hf:flashB p.steps (lastL e s wl p y x)=true):worldsE e s wl p y x=0:=(returns_facts he h0 hf).1
section
variable{w:World}{B:Nat}{u:SiteVs}{sd:SiteD}{wv sv av hv rv:Value}{vs:List Value}{l:List SrvV}{p:PlanD}{y:WorldD}
theorem lawUndoKeeps{x:Int}(hT:TabW w)(hB:B≤w.heap.size)(hs:SiteR w B u sd)(hl:WishR w B wv l)(hx0:WorldR w B hv rv y)(hpl:PlanR w B sv av vs p) :
 Ret Tryz.prog 6 #[.agg (siteC u sd).toArray,.agg #[wv],.agg #[hv,rv],.agg #[sv,av],intV x] w (.bool true):=by
 have⟨hn,hx⟩:=bg0 w
 have hs':=hs.sk hB
 have hl':=hl.sk hB
 have hp':=hpl.sk hB
 have hx':=hx0.sk hB
 have hS:=hs'.2.2.2.2.2.2
 have hW:=hl'.2.2
 have hP:=hp'.2.2.2.2.2.2
 have hX:=hx'.2.2.2.2
 have hbw:Bl B w w:=Bl.refl hB
 have hsv1:=hpl.s.one
 have hav1:=hp'.2.2.2.2.1
 have hh1:=hx0.h.one
 have hr1:=hx0.r.one
 have lF:=hl.v.fk
 have lK:=hl.v.k hB
 have hlm:=hl.v.max_
 have hT':=λw' (h:Ext w w')=>hT.ext h
 have hb1:=λw' (h1:Ext w w') (h2:Bl B w w') (h3:B≤w'.heap.size)=>undoBack (x:=x) (hT' w' h1) h3 (hS w' h2) (hW w' h2) (hP w' h2) (hX w' h2) rfl
 have hw1:=λw' (h1:Ext w w') (h2:Bl B w w') (h3:B≤w'.heap.size)=>undoWorlds (x:=x) (hT' w' h1) h3 (hS w' h2) (hW w' h2) (hP w' h2) (hX w' h2) rfl
 have hck:=λw' (h2:Bl B w w') (h3:B≤w'.heap.size)=>ref21Check h3 (hS w' h2) (hW w' h2) (hP w' h2) (hX w' h2) rfl
 have hbr:=λw' (h2:Bl B w w') (h3:B≤w'.heap.size)=>ref17Broken h3 (hS w' h2) (hW w' h2) (hX w' h2)
 have hbv:=λw' (h2:Bl B w w') (hb:B≤w'.heap.size) B' h r v (h4:B≤B') (h3:B'≤w'.heap.size) (h1:WorldR w' B' h r v)=>ref17Broken (B:=B') h3 ((hS w' h2).up24 h4) ((hW w' h2).up24 h4) h1
 have hkf:=λh0 hf hfw hc=>keeps_facts (x:=x) (y:=y) (rfl:planErr sd (l.map (·.x)) p=_) h0 hf hfw hc
 have hwz:=λh0 hf=>worlds_zero (x:=x) (y:=y) (rfl:planErr sd (l.map (·.x)) p=_) h0 hf
 generalize planErr sd (l.map (·.x)) p=e at *
 generalize backL e sd (l.map (·.x)) p y x=BL at hb1
 generalize lastL e sd (l.map (·.x)) p y x=LL at hb1 hkf hwz
 generalize worldsE e sd (l.map (·.x)) p y x=WE at hw1 hwz
 generalize worldsL e sd (l.map (·.x)) p y x=WL at hw1 hkf
 generalize wldE e sd (l.map (·.x)) p y x=E at hb1 hkf hwz
 have hWF:Hid (∀i,i<(l.map (·.x)).length→∀h:i<l.length,srvA (l.map (·.x)) i=(l[i]).x):=λi _ h=>srvA_at h
 have hll:Hid ((l.map (·.x)).length=l.length):=List.length_map ..
 replace hb1:Hid _:=hb1
 replace hw1:Hid _:=hw1
 replace hck:Hid _:=hck
 replace hbr:Hid _:=hbr
 replace hbv:Hid _:=hbv
 replace hkf:Hid _:=hkf
 replace hwz:Hid _:=hwz
 clear hpl hx0 hp' hx' hs' hl'
 (refine callsV_of Tryz.func6 rfl KR KR ?_;rw[Tryz.results6])
 (repeat' first|(with_reducible first|exact⟨⟩|(refine gB ?_;intros)|refine gT ?_ ?_)|refine gs ?_|((with_reducible refine at_f 8 ?_);refine retb_k (law24few (B:=B) FR (hS _ FR) (hW _ FR) (hX _ FR) (hP _ FR)) λ_ _ _ _=>?_)|((with_reducible refine at_f 9 ?_);refine ret_k (law24live (hT' _ FR)) λ_ _ _=>?_)|refine sxKeepQ240 ?_)
 refine loop_k (l.length) (λg0 k g _=>g 11=.int .i64 k∧(g 4=g0 4∧g 5=g0 5∧g 6=g0 6∧g 7=g0 7∧g 8=g0 8)∧Hid (∀i (h:i<l.length),i<k→(l[i]).x.firmware=0)) KR (hlm) ?_ ?_ ?_
 ·(repeat' first|(with_reducible first|exact⟨⟩|(refine gB ?_;intros)|refine gT ?_ ?_)|refine gs ?_|refine sxKeepQ242 ?_)
  exact λi h hi=>absurd hi (Nat.not_lt_zero _)
 ·rintro k m g wk hk hlt _ _ _ hw ⟨hi,hf,hp⟩
  simp(maxDischargeDepth:=3) only[U,↓reduceIte,Nat.reduceEqDiff, *] at hf
  by_cases hf0:(l[k]).x.firmware=0
  ·have hf1:((l[k]).x.firmware == 0)=true:=by simpa using hf0
   have hf2:((l[k]).x.firmware != 0)=false:=by simpa using hf0
   have hnx:Hid (∀i (h:i<l.length),i<k+1→(l[i]).x.firmware=0):=λi h hi=>by
    rcases Nat.lt_succ_iff_lt_or_eq.1 hi with h5|rfl
    ·exact hp.out i h h5
    ·exact hf0
   clear hp
   (repeat' first|(with_reducible first|exact⟨⟩|(refine gB ?_;intros)|refine gT ?_ ?_)|refine gs ?_|refine sxKeepQ243 ?_)
   refine next_k hk hlt ?_ FR
   (repeat' first|(with_reducible first|exact⟨⟩|(refine gB ?_;intros)|refine gT ?_ ?_)|refine gs ?_|refine sx ?_)
   all_goals exact hnx.out
  ·have hf1:((l[k]).x.firmware == 0)=false:=by simpa using hf0
   have hf2:((l[k]).x.firmware != 0)=true:=by simpa using hf0
   (repeat' first|(with_reducible first|exact⟨⟩|(refine gB ?_;intros)|refine gT ?_ ?_)|refine gs ?_|((with_reducible refine at_f 9 ?_);refine ret_k (law24live (hT' _ FR)) λ_ _ _=>?_)|refine sxKeepQ243 ?_)
 ·rintro g wk _ _ _ ⟨hi,hf,hp⟩
  simp(maxDischargeDepth:=3) only[U,↓reduceIte,Nat.reduceEqDiff, *] at hf
  have hfw:∀i,i<(l.map (·.x)).length→(srvA (l.map (·.x)) i).firmware=0:=λi hi=>by
   have h9:i<l.length:=by have:=hll.out;omega
   rw[hWF.out i hi h9]
   exact hp.out i h9 h9
  replace hfw:Hid _:=hfw
  clear hp hWF hll
  (repeat' first|(with_reducible first|exact⟨⟩|(refine gB ?_;intros)|refine gT ?_ ?_)|refine gs ?_|refine sxKeepQ240 ?_)
  refine call_k (hck.out _ FR FR) ?_
  rintro _ w1 n1 s1 ⟨fl,cb,CE,rfl,⟨hf5,hf1⟩,hcf⟩
  obtain⟨c0,c1,c2,c3,c4,rfl⟩:=five24 hf5
  simp only[List.mem_cons,List.not_mem_nil,or_false,forall_eq_or_imp,forall_eq] at hf1
  obtain⟨o0,o1,o2,o3,o4⟩:=hf1
  replace hcf:Hid _:=hcf
  clear hck hf5
  (repeat' first|(with_reducible first|exact⟨⟩|(refine gB ?_;intros)|refine gT ?_ ?_)|refine gs ?_|refine sxKeepQ240 ?_)
  refine call_k (hb1.out _ FR FR FR) ?_
  rintro _ w2 n2 s2 ⟨bv,lv,rfl,obv,olv⟩
  have obv1:=obv.one
  have olv1:=olv.one
  have h2l:Hid (∀w',Bl w2.heap.size w2 w'→Sl w' w2.heap.size none 1 lv (LL.map intV)):=λw' h=>(olv.sl1 (f:=intV)).bl h
  have KL:=(olv.sl1 (f:=intV)).k (Nat.le_refl _)
  have e2:Bl w2.heap.size w2 w2:=Bl.refl (Nat.le_refl _)
  have hfv:=λw' (h1:Bl B w w') (h2:Bl w2.heap.size w2 w') (h3:B≤w'.heap.size) (h4:w2.heap.size≤w'.heap.size)=>law24flashes h3 h4 (hP w' h1) (h2l.out w' h2)
  clear obv olv hb1
  by_cases hE:CE=0
  rotate_left
  ·have hE1:(CE == 0)=false:=by simpa using hE
   have hE2:(CE != 0)=true:=by simpa using hE
   clear hcf hkf hwz hfv h2l
   (repeat' first|(with_reducible first|exact⟨⟩|(refine gB ?_;intros)|refine gT ?_ ?_)|refine gs ?_|((with_reducible refine at_f 9 ?_);refine ret_k (law24live (hT' _ FR)) λ_ _ _=>?_)|refine sxKeepQ240 ?_)
  have hE1:(CE == 0)=true:=by simpa using hE
  have hE2:(CE != 0)=false:=by simpa using hE
  have hcf2:=hcf.out hE
  replace hcf2:Hid _:=hcf2
  subst hE
  clear hcf
  cases cb
  ·clear hcf2 hkf hwz hfv h2l
   (repeat' first|(with_reducible first|exact⟨⟩|(refine gB ?_;intros)|refine gT ?_ ?_)|refine gs ?_|((with_reducible refine at_f 9 ?_);refine ret_k (law24live (hT' _ FR)) λ_ _ _=>?_)|refine sxKeepQ240 ?_)
  have hheld:=hcf2.out rfl
  replace hheld:Hid _:=hheld
  clear hcf2
  by_cases h0:E=0
  rotate_left
  ·have hE3:(E == 0)=false:=by simpa using h0
   have hE4:(E != 0)=true:=by simpa using h0
   clear hheld hkf hwz hfv h2l
   (repeat' first|(with_reducible first|exact⟨⟩|(refine gB ?_;intros)|refine gT ?_ ?_)|refine gs ?_|((with_reducible refine at_f 9 ?_);refine ret_k (law24live (hT' _ FR)) λ_ _ _=>?_)|refine sxKeepQ240 ?_)
  cases hfl:flashB p.steps LL
  ·rw[hfl] at hfv
   have hE3:(E == 0)=true:=by simpa using h0
   have hE4:(E != 0)=false:=by simpa using h0
   subst h0
   clear hheld hkf hwz h2l hfl
   (repeat' first|(with_reducible first|exact⟨⟩|(refine gB ?_;intros)|refine gT ?_ ?_)|refine gs ?_|((with_reducible refine at_f 20 ?_);refine ret_k (hfv _ FR FR FR FR) λ_ _ _=>?_)|((with_reducible refine at_f 9 ?_);refine ret_k (law24live (hT' _ FR)) λ_ _ _=>?_)|refine sxKeepQ240 ?_)
  rw[hfl] at hfv
  have hWE:=hwz.out h0 hfl
  have hkeep:=hkf.out h0 hfl hfw.out hheld.out
  replace hkeep:Hid _:=hkeep
  subst h0
  subst hWE
  clear hheld hkf hwz h2l hfl hfw
  (repeat' first|(with_reducible first|exact⟨⟩|(refine gB ?_;intros)|refine gT ?_ ?_)|refine gs ?_|((with_reducible refine at_f 20 ?_);refine ret_k (hfv _ FR FR FR FR) λ_ _ _=>?_)|refine sxKeepQ240 ?_)
  refine call_k (hw1.out _ FR FR FR) ?_
  rintro _ w3 n3 s3 ⟨lv2,rfl,hlv⟩
  have lvone:=hlv.one
  obtain⟨us,hu1,hu2,hu3⟩:=hlv
  have K:=(hu2.slN (f:=wC)).k (Nat.le_refl _)
  have b3:Bl w3.heap.size w3 w3:=Bl.refl (Nat.le_refl _)
  have hu3':Hid (∀i (h:i<us.length),∀w',Bl w3.heap.size w3 w'→WorldR w' w3.heap.size us[i].1 us[i].2 (WL.getD i noW)):=λi h w' hb=>by
   have h1:WorldR w3 w3.heap.size us[i].1 us[i].2 (WL.getD i noW):=⟨(hu3 i h).1.slN (f:=stateC),(hu3 i h).2.slN (f:=replC)⟩
   exact⟨h1.h.bl hb,h1.r.bl hb⟩
  have hu4:Hid (∀i (h:i<us.length),us[i].1.oneCell'=true∧us[i].2.oneCell'=true):=λi h=>⟨(hu3 i h).1.one,(hu3 i h).2.one⟩
  have hkp2:Hid (∀i,i<us.length→keptB (brokenB sd (l.map (·.x)) y) (brokenB sd (l.map (·.x)) (WL.getD i noW))=true):=λi h=>hkeep.out _ (by
   have h9:i<WL.length:=by omega
   rw[List.getD_eq_getElem?_getD,List.getElem?_eq_getElem h9]
   exact List.getElem_mem h9)
  have hu2m:=(hu2.slN (f:=wC)).max_
  have hkA:Hid (∀z∈brokenB sd (l.map (·.x)) y,z.kind≠0):=kind_broken
  clear hu1 hu2 hu3 hw1 hfv hkeep
  obtain⟨BY,hBY⟩:∃BY,BY=brokenB sd (l.map (·.x)) y:=⟨_,rfl⟩
  rw[←hBY] at hbr hkp2 hkA
  clear hBY
  (repeat' first|(with_reducible first|exact⟨⟩|(refine gB ?_;intros)|refine gT ?_ ?_)|refine gs ?_|refine sxKeepQ240 ?_)
  refine loop_k (us.length) (λg0 k g _=>g 20=.int .i64 k∧(g 5=g0 5∧g 6=g0 6∧g 7=g0 7∧g 18=g0 18)∧True) KR (hu2m) ?_ ?_ ?_
  ·(repeat' first|(with_reducible first|exact⟨⟩|(refine gB ?_;intros)|refine gT ?_ ?_)|refine gs ?_|refine sxKeepQ242 ?_)
  ·rintro k m g wk hk hlt _ _ _ hw ⟨hi,hf,hp⟩
   simp(maxDischargeDepth:=3) only[U,↓reduceIte,Nat.reduceEqDiff, *] at hf
   have hkt:=hkp2.out k hlt
   have hkV:Hid (∀z∈brokenB sd (l.map (·.x)) (WL.getD k noW),z.kind≠0):=kind_broken
   obtain⟨H1,R1⟩:=hu4.out k hlt
   have hBw:B≤w3.heap.size:=FR
   have hbv2:=λw' (h1:Bl B w w') (h2:Bl w3.heap.size w3 w') (h3:B≤w'.heap.size) (h4:w3.heap.size≤w'.heap.size)=>hbv.out w' h1 h3 w3.heap.size us[k].1 us[k].2 (WL.getD k noW) hBw h4 (hu3'.out k hlt w' h2)
   replace hbv2:Hid _:=hbv2
   obtain⟨BV,hBV⟩:∃BV,BV=brokenB sd (l.map (·.x)) (WL.getD k noW):=⟨_,rfl⟩
   rw[←hBV] at hbv2 hkV hkt
   have hkpt:Hid (∀w' u v,BroR w' u BY→BroR w' v BV→CallsV Tryz.prog 23 #[u,v] w' λr w''=>Ext w' w''∧∃z:BrokeD,r=.tuple #[brokeV z,.bool true]):=λw' u v h1 h2=>hkt▸ref17Kept (Nat.le_refl _) (Nat.le_refl _) h1.1 h2.1
   clear hBV hkt
   (repeat' first|((with_reducible refine wpd_at 18 ?_);refine wpd_hold ?_)|(with_reducible first|exact⟨⟩|(refine gB ?_;intros)|refine gT ?_ ?_)|refine gs ?_|simp(maxDischargeDepth:=3) only[↓X,↓Y,↓Q,S1,↓reduceIte,Nat.reduceEqDiff,Nat.reduceAdd,Int.reduceLT,Int.reduceLE,Int.reduceNeg,Int.reduceBEq,Int.reduceBNe,Int.reduceEq,Nat.reduceLeDiff,Nat.reduceMul,Nat.reduceLT, *,wC]|simp(singlePass:=true) (maxDischargeDepth:=99) only[*,S2,Nat.reduceLT,wC])
   unfold wpdH
   refine wpd_relS 17 [(16,15)] (λiI s v w9=>match iI with
    |0=>v=.agg (siteC u sd).toArray
    |1=>v=.agg #[wv]
    |2=>v=.agg #[hv,rv]
    |3=>∃u0,v=u0∧BroR w9 u0 BY
    |4=>v=.agg (siteC u sd).toArray
    |5=>v=.agg #[wv]
    |6=>v=lv2
    |7=>v=.int .i64 (k:Nat)
    |8=>v=elemAt lv2 2 k
    |9=>v=.agg #[us[k].1,us[k].2]
    |10=>∃u0,v=u0∧BroR w9 u0 BV
    |11=>∃z:BrokeD,v=.tuple #[brokeV z,.bool true]
    |12=>∃z:BrokeD,v=.tuple #[brokeV z,.bool true]
    |13=>∃z:BrokeD,v=brokeV z
    |14=>v=.bool true
    |15=>∃b,v=.pointer (some ⟨b,0,none⟩)∧wk.heap.size≤b∧(s=false→Blk w9 b 64 [.int .u8 0,.int .i64 0,.int .i64 0])∧(s=true→∃z:BrokeD,Blk w9 b 64 (brokeC z))
    |16=>True
    |_=>False) KR KR KR KR ?_ ?_ ?_
   ·intro iI s v w1 w2 hR hx9
    match iI,hR with
    |0,h|1,h|2,h=>exact h
    |3,h=>exact(let ⟨u,e,o⟩:=h;⟨u,e,o.ext hx9⟩)
    |4,h|5,h|6,h|7,h|8,h|9,h=>exact h
    |10,h=>exact(let ⟨u,e,o⟩:=h;⟨u,e,o.ext hx9⟩)
    |11,h|12,h|13,h|14,h=>exact h
    |15,⟨b,e,h1,h2,h3⟩=>exact⟨b,e,h1,λhs=>(h2 hs).ext hx9,λhs=>(λh=>(let ⟨a,k⟩:=h;⟨a,k.ext hx9⟩)) (h3 hs)⟩
    |16,h=>exact h
   ·intro iI oO hi ho gF w9 S9 hx9 hdep hag
    have⟨s9,n9,r9,z9⟩:=bg9 hx9
    rcases iI with _|_|_|_|_|_|_|_|_|_|_|_|_|_|_|_|_|iI
    cases ho
    have a5:=hag.at 5 KR
    simp only[S5,↓reduceIte,Nat.reduceEqDiff,initF, *] at a5
    clear hag hdep
    refine rO ?_
    rotate_left
    cases ho
    have a6:=hag.at 6 KR
    simp only[S5,↓reduceIte,Nat.reduceEqDiff,initF, *] at a6
    clear hag hdep
    refine rO ?_
    rotate_left
    cases ho
    have a7:=hag.at 7 KR
    simp only[S5,↓reduceIte,Nat.reduceEqDiff,initF, *] at a7
    clear hag hdep
    refine rO ?_
    rotate_left
    cases ho
    have d0:(gF 99)=.agg (siteC u sd).toArray:=hdep ⟨0,.data⟩ (by simp) rfl _ _ rfl rfl
    have d1:(gF 100)=.agg #[wv]:=hdep ⟨1,.data⟩ (by simp) rfl _ _ rfl rfl
    have d2:(gF 101)=.agg #[hv,rv]:=hdep ⟨2,.data⟩ (by simp) rfl _ _ rfl rfl
    clear hag hdep
    refine rO ?_
    rotate_left
    cases ho
    have a5:=hag.at 5 KR
    simp only[S5,↓reduceIte,Nat.reduceEqDiff,initF, *] at a5
    clear hag hdep
    refine rO ?_
    rotate_left
    cases ho
    have a6:=hag.at 6 KR
    simp only[S5,↓reduceIte,Nat.reduceEqDiff,initF, *] at a6
    clear hag hdep
    refine rO ?_
    rotate_left
    cases ho
    have a18:=hag.at 18 KR
    simp only[S5,↓reduceIte,Nat.reduceEqDiff,initF, *] at a18
    clear hag hdep
    refine rO ?_
    rotate_left
    cases ho
    have a20:=hag.at 20 KR
    simp only[S5,↓reduceIte,Nat.reduceEqDiff,initF, *] at a20
    clear hag hdep
    refine rO ?_
    rotate_left
    cases ho
    have d6:(gF 105)=lv2:=hdep ⟨6,.data⟩ (by simp) rfl _ _ rfl rfl
    have d7:(gF 106)=.int .i64 (k:Nat):=hdep ⟨7,.data⟩ (by simp) rfl _ _ rfl rfl
    clear hag hdep
    refine rO ?_
    rotate_left
    cases ho
    have d8:(gF 107)=elemAt lv2 2 k:=hdep ⟨8,.data⟩ (by simp) rfl _ _ rfl rfl
    clear hag hdep
    refine rO ?_
    rotate_left
    cases ho
    have d4:(gF 103)=.agg (siteC u sd).toArray:=hdep ⟨4,.data⟩ (by simp) rfl _ _ rfl rfl
    have d5:(gF 104)=.agg #[wv]:=hdep ⟨5,.data⟩ (by simp) rfl _ _ rfl rfl
    have d9:(gF 108)=.agg #[us[k].1,us[k].2]:=hdep ⟨9,.data⟩ (by simp) rfl _ _ rfl rfl
    clear hag hdep
    refine rO ?_
    rotate_left
    cases ho
    obtain⟨u3,e3,o3⟩:=hdep ⟨3,.data⟩ (by simp) rfl _ _ rfl rfl
    obtain⟨u7,e7,o7⟩:=hdep ⟨10,.data⟩ (by simp) rfl _ _ rfl rfl
    clear hag hdep
    refine rO ?_
    rotate_left
    cases ho
    obtain⟨z8,e8⟩:=hdep ⟨11,.data⟩ (by simp) rfl _ _ rfl rfl
    clear hag hdep
    refine rO ?_
    rotate_left
    cases ho
    obtain⟨z9',e9'⟩:=hdep ⟨12,.data⟩ (by simp) rfl _ _ rfl rfl
    clear hag hdep
    refine rO ?_
    rotate_left
    cases ho
    obtain⟨z9',e9'⟩:=hdep ⟨12,.data⟩ (by simp) rfl _ _ rfl rfl
    clear hag hdep
    refine rO ?_
    rotate_left
    cases ho
    clear hag hdep
    refine rO ?_
    rotate_left
    cases ho
    obtain⟨b15,e15,q15,hz15,_⟩:=hdep ⟨15,.data⟩ (by simp) rfl _ _ rfl rfl
    obtain⟨z10,e10⟩:=hdep ⟨13,.data⟩ (by simp) rfl _ _ rfl rfl
    clear hag hdep
    refine⟨λh=>by simp[alL] at h,λa9 pa da hal hS9 hpa hda=>?_⟩
    obtain rfl:15=a9:=by simpa [alL] using hal
    obtain rfl:=Option.some.inj hpa
    obtain rfl:=Option.some.inj hda
    have hz:=hz15 hS9
    clear hal hpa hda hz15
    refine relStep_off rfl ?_
    rotate_left
    ·omega
    all_goals (repeat' first|(with_reducible first|exact⟨⟩|(refine gB ?_;intros)|refine gT ?_ ?_)|refine gs ?_|simp(maxDischargeDepth:=3) only[↓X,↓Y,↓Q,S1,↓reduceIte,Nat.reduceEqDiff,Nat.reduceAdd,Int.reduceLT,Int.reduceLE,Int.reduceNeg,Int.reduceBEq,Int.reduceBNe,Int.reduceEq,Nat.reduceLeDiff,Nat.reduceMul,Nat.reduceLT, *,siteC,wC]|simp(singlePass:=true) (maxDischargeDepth:=99) only[*,S2,Nat.reduceLT,siteC,wC])
    all_goals first
     |((with_reducible show CallsV Tryz.prog 24 #[_,_,.agg #[hv,rv]] _ _);refine CallsV.mono (hbr.out _ FR FR) λv w10 hh=>⟨hh.1,_,rfl,hh.2.bro⟩)
     |((with_reducible show CallsV Tryz.prog 24 _ _ _);refine CallsV.mono (hbv2.out _ FR FR FR FR) λv w10 hh=>⟨hh.1,_,rfl,hh.2.bro⟩)
     |((with_reducible show CallsV Tryz.prog 23 _ _ _);refine CallsV.mono (hkpt.out _ _ _ o3 o7) λv w10 hh=>hh)
     |(exact⟨z8,rfl⟩)
     |(exact⟨z9',rfl⟩)
     |(rename_i b10 w10 n10 k10 s10 q10;exact⟨_,rfl,FR,λ_=>k10.2.1 _ k10.2.2.1,λh=>absurd h (by decide)⟩)
     |(
      refine stT_agg (w0:=w9) (vs:=brokeC z10) hz rfl KR rfl (by simp[brokeC,intV,Value.oneCell']) λw10 hb10 hc=>⟨b15,hc,q15,⟨b15,(by first|exact e15|rfl),q15,λh=>absurd h (by decide),λ_=>⟨z10,hb10⟩⟩,?_⟩
      intro iI s v hne hR
      match iI,hR with
      |0,h|1,h|2,h|4,h|5,h|6,h|7,h|8,h|9,h|14,h|16,h=>exact h
      |3,h=>exact(let ⟨u,e,o⟩:=h;⟨u,e,o.fr hkA.out hz hc⟩)
      |10,h=>exact(let ⟨u,e,o⟩:=h;⟨u,e,o.fr hkV.out hz hc⟩)
      |11,h|12,h|13,h=>exact h
      |15,_=>exact absurd rfl hne)
   ·intro g9 w9 hx9 hR hag
    have⟨s9,n9,r9,z9⟩:=bg9 hx9
    have d14:(g9 112)=.bool true:=hR 14 _ _ (by decide) rfl rfl
    have a5:=hag.at 5 KR
    have a6:=hag.at 6 KR
    have a7:=hag.at 7 KR
    have a18:=hag.at 18 KR
    have a20:=hag.at 20 KR
    simp only[S5,↓reduceIte,Nat.reduceEqDiff,initF, *] at a5 a6 a7 a18 a20
    clear hag hR
    simp only[List.drop_succ_cons,List.drop_zero]
    (repeat' first|(with_reducible first|exact⟨⟩|(refine gB ?_;intros)|refine gT ?_ ?_)|refine gs ?_|refine sx ?_)
    refine next_k hk hlt ?_ FR
    (repeat' first|(with_reducible first|exact⟨⟩|(refine gB ?_;intros)|refine gT ?_ ?_)|refine gs ?_|refine sx ?_)
  ·rintro g wk _ _ _ ⟨hi,hf,hp⟩
   simp(maxDischargeDepth:=3) only[U,↓reduceIte,Nat.reduceEqDiff, *] at hf
   (repeat' first|(with_reducible first|exact⟨⟩|(refine gB ?_;intros)|refine gT ?_ ?_)|refine gs ?_|((with_reducible refine at_f 9 ?_);refine ret_k (law24live (hT' _ FR)) λ_ _ _=>?_)|refine sx ?_)
end
end Go.Proofs.YtphciegaokdolaaGreatDoor
