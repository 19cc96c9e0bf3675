
/- The document's answer, layer 21: after, World. -/
import Derived.Test.YtphciegaokdolaaGreatDoorWL24
import Derived.Test.YtphciegaokdolaaGreatDoorRef19
import Derived.Test.YtphciegaokdolaaGreatDoorRef20b
namespace Go.Proofs.YtphciegaokdolaaGreatDoor
set_option linter.unusedSimpArgs false
set_option linter.unusedVariables false
open Go Go.RowKit
set_option maxRecDepth 100000
set_option linter.unusedSectionVars false
set_option maxHeartbeats 2000000
theorem sxRef210{p q:Prop}(hq:q)(h:p=q:=by first|(simp(maxDischargeDepth:=3) only[↓X,↓Y,↓Q,S1,↓reduceIte,Nat.reduceEqDiff,Nat.reduceAdd,Int.reduceLT,Int.reduceLE,Int.reduceNeg,Int.reduceBEq,Int.reduceBNe,Int.reduceEq,Nat.reduceLeDiff,Nat.reduceMul,Nat.reduceLT, *,siteC];try exact rfl)|(simp(singlePass:=true) (maxDischargeDepth:=99) only[*,S2,Nat.reduceLT,siteC];try exact rfl)):p:=h▸hq
theorem sxRef212{p q:Prop}(hq:q)(h:p=q:=by first|(simp(maxDischargeDepth:=3) only[↓X,↓Y,↓Q,S1,↓reduceIte,Nat.reduceEqDiff,Nat.reduceAdd,Int.reduceLT,Int.reduceLE,Int.reduceNeg,Int.reduceBEq,Int.reduceBNe,Int.reduceEq,Nat.reduceLeDiff,Nat.reduceMul,Nat.reduceLT, *,siteC,stepV,stepC];try exact rfl)|(simp(singlePass:=true) (maxDischargeDepth:=99) only[*,S2,Nat.reduceLT,siteC,stepV,stepC];try exact rfl)):p:=h▸hq
def AtW(Qa:Prop)(w:World)(B Bo:Nat)(h r:Value)(x:WorldD):Prop:=Qa∧WorldR w B h r x∨OwnH w Bo h x.hosts∧OwnP w Bo r x.replicas
def AgW(Qa:Prop)(B Bo:Nat)(v:Value)(w:World)(x:WorldD):Prop:=∃h r,v=.agg #[h,r]∧AtW Qa w B Bo h r x
theorem AgW.none{Qa:Prop}{B Bo:Nat}{w:World}:AgW Qa B Bo (.agg #[.slice none 0 0,.slice none 0 0]) w noW:=⟨_,_,rfl,.inr ⟨Own.nil _ _ _ _,Own.nil _ _ _ _⟩⟩
theorem AtW.slW{Qa:Prop}{w:World}{B Bo:Nat}{h r:Value}{x:WorldD}(hx:AtW Qa w B Bo h r x)(hB:B≤w.heap.size):WorldR w w.heap.size h r x:=by
 rcases hx with hx|hx
 ·exact⟨hx.2.h.more hB,hx.2.r.more hB⟩
 ·exact⟨hx.1.slN (f:=stateC),hx.2.slN (f:=replC)⟩
theorem AtW.extW{Qa:Prop}{w w':World}{B Bo:Nat}{h r:Value}{x:WorldD}(hx:AtW Qa w B Bo h r x)(he:Ext w w')(hB:B≤w.heap.size):AtW Qa w' B Bo h r x:=by
 rcases hx with hx|hx
 ·have k:Bl B w w':=(Bl.refl hB).ext he
  exact .inl ⟨hx.1,hx.2.h.bl k,hx.2.r.bl k⟩
 ·exact .inr ⟨hx.1.ext he,hx.2.ext he⟩
theorem AtW.frW{Qa:Prop}{w w':World}{B Bo b:Nat}{h r:Value}{x:WorldD}{z:List Value}(hx:AtW Qa w B Bo h r x)(hz:Blk w b 36 z)(hc:Chg w w' b)(hb:B≤b)(hB:B≤w.heap.size):AtW Qa w' B Bo h r x:=by
 rcases hx with hx|hx
 ·have k:Bl B w w':=(Bl.refl hB).chg hc hb
  exact .inl ⟨hx.1,hx.2.h.bl k,hx.2.r.bl k⟩
 ·exact .inr ⟨hx.1.fr hz hc (.inl (by decide)),hx.2.fr hz hc (.inl (by decide))⟩
section
variable{w:World}{B Bo:Nat}{u:SiteVs}{sd:SiteD}{wv sv av hv rv ov:Value}{vs:List Value}{l:List SrvV}{p:PlanD}{y:WorldD}{L:List Nat}
theorem ref21from{Qa:Prop}(hB:B≤w.heap.size)(hs:SiteR w B u sd)(hl:WishR w B wv l)(hpl:PlanR w B sv av vs p)(hx0:AtW Qa w B Bo hv rv y)(hBo:Bo≤w.heap.size)(ho:Sl w Bo none 1 ov (L.map natV))(hL:∀i∈L,i<p.steps.length)(hLn:L.length≤4096) :
 CallsV Tryz.prog 46 #[.agg (siteC u sd).toArray,.agg #[wv],.agg #[hv,rv],.agg #[sv,av],ov] w λr w'=>Ext w w'∧∃v0,r=.tuple #[v0,intV (runL sd (l.map (·.x)) p.steps L y).2]∧AgW Qa B Bo v0 w' (if (runL sd (l.map (·.x)) p.steps L y).2=-1 then lastW (runL sd (l.map (·.x)) p.steps L y).1 y else noW):=by
 have⟨hn,hx⟩:=bg0 w
 have hs':=hs.sk hB
 have hl':=hl.sk hB
 have hp':=hpl.sk hB
 have hS:=hs'.2.2.2.2.2.2
 have hW:=hl'.2.2
 have ho':=ho.k hBo
 have hbo:Bl Bo w w:=Bl.refl hBo
 have hbw:Bl B w w:=Bl.refl hB
 have hst:=hp'.1
 have hsv1:=hpl.s.one
 have hav1:=hp'.2.2.2.2.1
 have hh1:=(hx0.slW hB).h.one
 have hr1:=(hx0.slW hB).r.one
 have hX0:Hid (∀w',Ext w w'→AtW Qa w' B Bo hv rv y):=λw' h=>hx0.extW h hB
 have hovl:lenN ov=L.length:=by rw[ho.len,List.length_map]
 have hL':Hid (∀i (h:i<L.length),L[i]<p.steps.length):=λi h=>hL _ (List.getElem_mem h)
 have hstA:Hid (∀i (h:i<p.steps.length),stA p.steps i=p.steps[i]):=λi h=>stA_at h
 have hrb:=runL_bad (s:=sd) (wl:=l.map (·.x)) (steps:=p.steps) L y
 clear hL hpl hp' hx0
 (refine callsV_of Tryz.func46 rfl KR KR ?_;rw[Tryz.results46])
 (repeat' first|(with_reducible first|exact⟨⟩|(refine gB ?_;intros)|refine gT ?_ ?_)|refine gs ?_|refine sxRef210 ?_)
 rename_i b5 w5 n5 k5 s5 q5 b6 w6 n6 k6 s6 q6 b7 w7 n7 k7 s7 q7 b8 w8 n8 k8 s8 q8 ba wa na ka sa qa
 have hk7:Blk wa b7 36 [hv,rv]:=k7.2.1 _ FR
 have hka:Blk wa ba 36 [.slice none 0 0,.slice none 0 0]:=ka.2.1 _ FR
 have d87:¬b8=b7:=λe=>by
  have h1:=(k7.2.1 w7 k7.2.2.1).lt
  have h2:=q8.2.1 _ (Nat.le_refl _)
  omega
 have da7:¬ba=b7:=λe=>by
  have h1:b7<w8.heap.size:=Nat.lt_of_lt_of_le (k7.2.1 w7 k7.2.2.1).lt FR
  have h2:=qa.2.1 _ (Nat.le_refl _)
  omega
 have hX8:AtW Qa wa B Bo hv rv y:=hX0.out _ FR
 have hBa:B≤ba:=Nat.le_trans hB (Nat.le_trans (show w.heap.size≤w8.heap.size from FR) (qa.2.1 _ (Nat.le_refl _)))
 have hbl8:b7<wa.heap.size:=hk7.lt
 have hw8:w.heap.size≤wa.heap.size:=FR
 generalize hwl:l.map (·.x)=wl at *
 clear k7 ka hX0
 (repeat' first|(with_reducible first|exact⟨⟩|(refine gB ?_;intros)|refine gT ?_ ?_)|refine gs ?_|refine sx ?_)
 refine loop_b b7 L.length (λg0 k g w'=>g 12=.int .i64 (k:Int)∧(g 4=g0 4∧g 5=g0 5∧g 6=g0 6∧g 7=g0 7∧g 8=g0 8∧g 10=g0 10)∧∃h r x ws,Blk w' b7 36 [h,r]∧Blk w' ba 36 [.slice none 0 0,.slice none 0 0]∧Hid (AtW Qa w' B Bo h r x)∧Hid (RunAt sd wl p.steps L y k ws x)) KR (by omega) FR ?_ ?_ ?_
 ·(repeat' first|(with_reducible first|exact⟨⟩|(refine gB ?_;intros)|refine gT ?_ ?_)|refine gs ?_|refine sx ?_)
  exact⟨hv,rv,y,[],hk7,hX8,RunAt.start⟩
 ·clear hX8 hk7 hka
  rintro k m g wk hk hlt nk sk ck hbl hw ⟨hi,hf,h,r,x,ws,hbk,hba,hXa,hp⟩
  simp(maxDischargeDepth:=3) only[U,↓reduceIte,Nat.reduceEqDiff, *] at hf
  have kb7:=hbk.bk
  have kba:=hba.bk
  have hLk:=hL'.out k hlt
  have hstk:=hstA.out _ hLk
  have hwk:w.heap.size≤wk.heap.size:=FR
  have hX:WorldR wk wk.heap.size h r x:=hXa.out.slW (Nat.le_trans hB hwk)
  have hx9':=hX.sk (Nat.le_refl _)
  have hXk:=hx9'.2.2.2.2
  have h7h:=hX.h.one
  have h7r:=hX.r.one
  have bwk:Bl wk.heap.size wk wk:=Bl.refl (Nat.le_refl _)
  have hBk:B≤wk.heap.size:=Nat.le_trans hB hwk
  have hBok:Bo≤wk.heap.size:=Nat.le_trans hBo hwk
  have hAp:=λw' (h1:Bl B w w') (h2:Bl wk.heap.size wk w') (h3:wk.heap.size≤w'.heap.size)=>ref19Apply (st:=p.steps[L[k]]) (B:=wk.heap.size) h3 ((hS w' h1).up24 hBk) ((hW w' h1).up24 hBk) (hXk w' h2)
  have hLi:((L[k]:Nat):Int)<((p.steps.length:Nat):Int):=by omega
  have hkI:((k:Nat):Int)<((L.length:Nat):Int):=by omega
  have hrun0:=λe=>hp.out.more hlt e
  have hrun1:=λe=>hp.out.stop hlt e
  rw[hstk,←hwl] at hrun0 hrun1
  generalize applyE sd (l.map (·.x)) x p.steps[L[k]]=E at *
  generalize applyW sd (l.map (·.x)) x p.steps[L[k]]=W' at *
  rw[hwl] at hrun0 hrun1
  replace hrun0:Hid _:=hrun0
  replace hrun1:Hid _:=hrun1
  clear hp hx9' hXk hX hXa
  (repeat' first|((with_reducible refine wpd_at 4 ?_);refine wpd_hold ?_)|(with_reducible first|exact⟨⟩|(refine gB ?_;intros)|refine gT ?_ ?_)|refine gs ?_|refine sxRef212 ?_)
  unfold wpdH
  refine wpd_relS 17 [(16,15)] (λiI s v w9=>match iI with
   |0=>v=.agg (siteC u sd).toArray
   |1=>v=.agg #[wv]
   |2=>v=.agg #[h,r]
   |3=>v=.pointer (some ⟨b8,0,none⟩)
   |4=>v=sv
   |5=>v=ov
   |6=>v=.int .i64 (k:Nat)
   |7=>v=elemAt ov 1 k
   |8=>v=.int .i64 (L[k]:Nat)
   |9=>v=elemAt sv 4 L[k]
   |10=>v=stepV p.steps[L[k]]
   |11=>∃u,v=.tuple #[u,intV E]∧OwnW wk.heap.size u w9 W'
   |12=>∃u,v=.tuple #[u,intV E]∧OwnW wk.heap.size u w9 W'
   |13=>OwnW wk.heap.size v w9 W'
   |14=>v=intV E
   |15=>∃b,v=.pointer (some ⟨b,0,none⟩)∧wk.heap.size≤b∧(s=false→Blk w9 b 36 [.slice none 0 0,.slice none 0 0])∧(s=true→∃h r,Blk w9 b 36 [h,r]∧OwnH w9 wk.heap.size h W'.hosts∧OwnP w9 wk.heap.size r W'.replicas)
   |16=>True
   |_=>False) KR KR KR KR ?_ ?_ ?_
  ·intro iI s v w1 w2 hR hx9
   match iI,hR with
   |0,h|1,h|2,h|3,h|4,h|5,h|6,h|7,h|8,h|9,h|10,h=>exact h
   |11,h=>exact(let ⟨u,e,o⟩:=h;⟨u,e,o.ext hx9⟩)
   |12,h=>exact(let ⟨u,e,o⟩:=h;⟨u,e,o.ext hx9⟩)
   |13,h=>exact OwnW.ext h hx9
   |14,h=>exact h
   |15,⟨b,e,h1,h2,h3⟩=>exact⟨b,e,h1,λhs=>(h2 hs).ext hx9,λhs=>(λh=>(let ⟨a,b,k,o1,o2⟩:=h;⟨a,b,k.ext hx9,o1.ext hx9,o2.ext hx9⟩)) (h3 hs)⟩
   |16,h=>exact h
  ·intro iI oO hi ho gF w9 S9 hx9 hdep hag
   have⟨s9,n9,r9,z9⟩:=bg9 hx9
   rcases iI with _|_|_|_|_|_|_|_|_|_|_|_|_|_|_|_|_|iI
   cases ho
   have a5:=hag.at 5 KR
   simp only[S5,↓reduceIte,Nat.reduceEqDiff,initF, *] at a5
   clear hag hdep
   refine rO ?_
   rotate_left
   cases ho
   have a6:=hag.at 6 KR
   simp only[S5,↓reduceIte,Nat.reduceEqDiff,initF, *] at a6
   clear hag hdep
   refine rO ?_
   rotate_left
   cases ho
   have a7:=hag.at 7 KR
   simp only[S5,↓reduceIte,Nat.reduceEqDiff,initF, *] at a7
   clear hag hdep
   refine rO ?_
   rotate_left
   cases ho
   have a8:=hag.at 8 KR
   simp only[S5,↓reduceIte,Nat.reduceEqDiff,initF, *] at a8
   clear hag hdep
   refine rO ?_
   rotate_left
   cases ho
   have d3:(gF 25)=.pointer (some ⟨b8,0,none⟩):=hdep ⟨3,.data⟩ (by simp) rfl _ _ rfl rfl
   clear hag hdep
   refine rO ?_
   rotate_left
   cases ho
   have a4:=hag.at 4 KR
   simp only[S5,↓reduceIte,Nat.reduceEqDiff,initF, *] at a4
   clear hag hdep
   refine rO ?_
   rotate_left
   cases ho
   have a12:=hag.at 12 KR
   simp only[S5,↓reduceIte,Nat.reduceEqDiff,initF, *] at a12
   clear hag hdep
   refine rO ?_
   rotate_left
   cases ho
   have d5:(gF 27)=ov:=hdep ⟨5,.data⟩ (by simp) rfl _ _ rfl rfl
   have d6:(gF 28)=.int .i64 (k:Nat):=hdep ⟨6,.data⟩ (by simp) rfl _ _ rfl rfl
   clear hag hdep
   refine rO ?_
   rotate_left
   cases ho
   have d7:(gF 29)=elemAt ov 1 k:=hdep ⟨7,.data⟩ (by simp) rfl _ _ rfl rfl
   clear hag hdep
   refine rO ?_
   rotate_left
   cases ho
   have d4:(gF 26)=sv:=hdep ⟨4,.data⟩ (by simp) rfl _ _ rfl rfl
   have d8:(gF 30)=.int .i64 (L[k]:Nat):=hdep ⟨8,.data⟩ (by simp) rfl _ _ rfl rfl
   clear hag hdep
   refine rO ?_
   rotate_left
   cases ho
   have d9:(gF 31)=elemAt sv 4 L[k]:=hdep ⟨9,.data⟩ (by simp) rfl _ _ rfl rfl
   clear hag hdep
   refine rO ?_
   rotate_left
   cases ho
   have d0:(gF 22)=.agg (siteC u sd).toArray:=hdep ⟨0,.data⟩ (by simp) rfl _ _ rfl rfl
   have d1:(gF 23)=.agg #[wv]:=hdep ⟨1,.data⟩ (by simp) rfl _ _ rfl rfl
   have d2:(gF 24)=.agg #[h,r]:=hdep ⟨2,.data⟩ (by simp) rfl _ _ rfl rfl
   have d10:(gF 32)=stepV p.steps[L[k]]:=hdep ⟨10,.data⟩ (by simp) rfl _ _ rfl rfl
   clear hag hdep
   refine rO ?_
   rotate_left
   cases ho
   obtain⟨u7,e7,o7⟩:=hdep ⟨11,.data⟩ (by simp) rfl _ _ rfl rfl
   clear hag hdep
   refine rO ?_
   rotate_left
   cases ho
   obtain⟨u8,e8,o8⟩:=hdep ⟨12,.data⟩ (by simp) rfl _ _ rfl rfl
   clear hag hdep
   refine rO ?_
   rotate_left
   cases ho
   obtain⟨u8,e8,o8⟩:=hdep ⟨12,.data⟩ (by simp) rfl _ _ rfl rfl
   clear hag hdep
   refine rO ?_
   rotate_left
   cases ho
   clear hag hdep
   refine rO ?_
   rotate_left
   cases ho
   obtain⟨b15,e15,q15,hz15,_⟩:=hdep ⟨15,.data⟩ (by simp) rfl _ _ rfl rfl
   have d13:OwnW wk.heap.size (gF 34) w9 W':=hdep ⟨13,.data⟩ (by simp) rfl _ _ rfl rfl
   obtain⟨h9,r9',e9,oh9,or9⟩:=d13
   have H9:=oh9.one
   have R9:=or9.one
   clear hag hdep
   refine⟨λh=>by simp[alL] at h,λa9 pa da hal hS9 hpa hda=>?_⟩
   obtain rfl:15=a9:=by simpa [alL] using hal
   obtain rfl:=Option.some.inj hpa
   obtain rfl:=Option.some.inj hda
   have hz:=hz15 hS9
   clear hal hpa hda hz15
   refine relStep_off rfl ?_
   rotate_left
   ·omega
   all_goals (repeat' first|(with_reducible first|exact⟨⟩|(refine gB ?_;intros)|refine gT ?_ ?_)|refine gs ?_|refine sxRef212 ?_)
   all_goals first
    |(refine CallsV.mono (hAp _ FR FR FR) λv w10 hh=>⟨hh.1,?_⟩;obtain⟨_,u0,rfl,ho⟩:=hh;exact⟨u0,rfl,ho.more z9⟩)
    |(exact⟨u7,rfl,o7⟩)
    |(exact o8)
    |(rename_i b10 w10 n10 k10 s10 q10;exact⟨_,rfl,FR,λ_=>k10.2.1 _ k10.2.2.1,λh=>absurd h (by decide)⟩)
    |(
     refine stT_agg (w0:=w9) (vs:=[h9,r9']) hz rfl KR rfl (by simp[H9,R9]) λw10 hb10 hc=>⟨b15,hc,q15,⟨b15,(by first|exact e15|rfl),q15,λh=>absurd h (by decide),λ_=>⟨h9,r9',hb10,oh9.fr hz hc (.inl (by decide)),or9.fr hz hc (.inl (by decide))⟩⟩,?_⟩
     intro iI s v hne hR
     match iI,hR with
     |0,h|1,h|2,h|3,h|4,h|5,h|6,h|7,h|8,h|9,h|10,h|14,h|16,h=>exact h
     |11,h=>exact(let ⟨u,e,o⟩:=h;⟨u,e,ownW_fr24 o hz hc⟩)
     |12,h=>exact(let ⟨u,e,o⟩:=h;⟨u,e,ownW_fr24 o hz hc⟩)
     |13,h=>exact ownW_fr24 h hz hc
     |15,_=>exact absurd rfl hne)
  ·intro g9 w9 hx9 hR hag
   have⟨s9,n9,r9,z9⟩:=bg9 hx9
   have d14:(g9 35)=intV E:=hR 14 _ _ (by decide) rfl rfl
   have d15:∃b,(g9 13)=.pointer (some ⟨b,0,none⟩)∧wk.heap.size≤b∧(true=false→Blk w9 b 36 [.slice none 0 0,.slice none 0 0])∧(true=true→∃h r,Blk w9 b 36 [h,r]∧OwnH w9 wk.heap.size h W'.hosts∧OwnP w9 wk.heap.size r W'.replicas):=hR 15 _ _ (by decide) rfl rfl
   obtain⟨b15,e15,q15,_,f15⟩:=d15
   replace f15:=f15 rfl
   have nw15:=Nw.of q15
   obtain⟨hA,rA,kwA,ohA,orA⟩:=f15
   have KWA:=kwA.bk
   have HAone:=ohA.one
   have RAone:=orA.one
   have a4:=hag.at 4 KR
   have a5:=hag.at 5 KR
   have a6:=hag.at 6 KR
   have a7:=hag.at 7 KR
   have a8:=hag.at 8 KR
   have a10:=hag.at 10 KR
   have a12:=hag.at 12 KR
   simp only[S5,↓reduceIte,Nat.reduceEqDiff,initF, *] at a4 a5 a6 a7 a8 a10 a12
   clear hag hR
   simp only[List.drop_succ_cons,List.drop_zero]
   have hohx:=λw' (h:Ext w9 w')=>ohA.ext h
   have horx:=λw' (h:Ext w9 w')=>orA.ext h
   replace hohx:Hid _:=hohx
   replace horx:Hid _:=horx
   have r9:=Ext.refl w9
   by_cases hE0:E=0
   ·subst hE0
    have hrn:=hrun0.out rfl
    replace hrn:Hid _:=hrn
    have c9:Cg b7 w9 w9:=Chg.refl' w9 b7
    have hk79:Blk w9 b7 36 [h,r]:=kb7.2.1 _ FR
    have ohA':Hid _:=ohA
    have orA':Hid _:=orA
    clear hAp ohA orA hrun1 hrun0
    (repeat' first|(with_reducible first|exact⟨⟩|(refine gB ?_;intros)|refine gT ?_ ?_)|refine gs ?_|refine sx ?_)
    rename_i wz nz kz sz
    have cz:Cg b7 w9 wz:=FR
    have F:Hid (OwnH wz Bo hA W'.hosts∧OwnP wz Bo rA W'.replicas∧Blk wz b7 36 [hA,rA]∧Blk wz ba 36 [.slice none 0 0,.slice none 0 0]):=⟨Own.more (ohA'.out.fr hk79 cz (.inl (by decide))) hBok,Own.more (orA'.out.fr hk79 cz (.inl (by decide))) hBok,kz.2.1 _ kz.2.2.1,kba.2.1 _ FR⟩
    refine next_b hk hlt ?_ FR
    (repeat' first|(with_reducible first|exact⟨⟩|(refine gB ?_;intros)|refine gT ?_ ?_)|refine gs ?_|refine sx ?_)
    exact⟨hA,rA,W',_,F.out.2.2.1,.inr ⟨F.out.1,F.out.2.1⟩,hrn.out⟩
   ·have hE1:(E == 0)=false:=by simpa using hE0
    have hE2:(E != 0)=true:=by simpa using hE0
    have hst9:=hrun1.out hE0
    have hne1:¬((L[k]:Nat):Int)=-1:=by omega
    rw[hst9]
    simp only[if_neg hne1]
    clear hAp ohA orA hrun1 hrun0 hst9 hrb
    obtain⟨wq,hwq⟩:∃wq,wq=w9:=⟨_,rfl⟩
    subst hwq
    (repeat' first|((with_reducible refine wpd_at 6 ?_);refine wpd_hold ?_)|(with_reducible first|exact⟨⟩|(refine gB ?_;intros)|refine gT ?_ ?_)|refine gs ?_|refine sx ?_)
    have hRB:∀b∈[ba],b<wq.heap.size:=by simp only[List.mem_cons,List.not_mem_nil,or_false,forall_eq_or_imp,forall_eq];exact FR
    unfold wpdH
    refine wpd_relL 6 [ba] [(5,ba)] rfl (λiI v w9=>match iI with
     |0=>v=.agg #[.slice none 0 0,.slice none 0 0]
     |1=>v=ov
     |2=>v=.int .i64 (k:Nat)
     |3=>v=elemAt ov 1 k
     |4=>v=.int .i64 (L[k]:Nat)
     |5=>Blk w9 ba 36 [.slice none 0 0,.slice none 0 0]
     |_=>False) KR KR KR hRB (by simp only[List.nodup_cons,List.mem_cons,List.not_mem_nil,or_false,not_or,List.nodup_nil,not_false_eq_true,and_true]<;>exact FR) ?_ ?_ ?_
    ·intro iI v w1 w2 hR hx9
     match iI,hR with
     |0,h|1,h|2,h|3,h|4,h=>exact h
     |5,h=>exact h.tb hx9 (λhX=>hX.2 rfl)
    ·intro iI oO hi ho gF w9 hx9 hdep hag hun
     have s9:=hx9.sb
     simp only[Sb,List.mem_cons,List.not_mem_nil,or_false,forall_eq_or_imp,forall_eq] at s9
     have n9:Now w9:=trivial
     have r9:=Ext.refl w9
     have z9:=hx9.size
     rcases iI with _|_|_|_|_|_|iI
     cases ho
     have un5:Kp ba wq w9:=⟨hRB _ (by simp),hun 5 _ (by decide) rfl KR⟩
     clear hag hdep hun
     refine⟨λ_=>?_,λb hb=>by simp[bkL] at hb⟩
     refine relStep_off rfl ?_
     rotate_left
     cases ho
     have a4:=hag.at 4 KR
     simp only[S5,↓reduceIte,Nat.reduceEqDiff,initF, *] at a4
     clear hag hdep hun
     refine⟨λ_=>?_,λb hb=>by simp[bkL] at hb⟩
     refine relStep_off rfl ?_
     rotate_left
     cases ho
     have a12:=hag.at 12 KR
     simp only[S5,↓reduceIte,Nat.reduceEqDiff,initF, *] at a12
     clear hag hdep hun
     refine⟨λ_=>?_,λb hb=>by simp[bkL] at hb⟩
     refine relStep_off rfl ?_
     rotate_left
     cases ho
     have d1:(gF 39)=ov:=hdep ⟨1,.data⟩ (by simp) rfl _ _ rfl rfl
     have d2:(gF 40)=.int .i64 (k:Nat):=hdep ⟨2,.data⟩ (by simp) rfl _ _ rfl rfl
     clear hag hdep hun
     refine⟨λ_=>?_,λb hb=>by simp[bkL] at hb⟩
     refine relStep_off rfl ?_
     rotate_left
     cases ho
     have d3:(gF 41)=elemAt ov 1 k:=hdep ⟨3,.data⟩ (by simp) rfl _ _ rfl rfl
     clear hag hdep hun
     refine⟨λ_=>?_,λb hb=>by simp[bkL] at hb⟩
     refine relStep_off rfl ?_
     rotate_left
     cases ho
     have a10:=hag.at 10 KR
     simp only[S5,↓reduceIte,Nat.reduceEqDiff,initF, *] at a10
     have d0:(gF 38)=.agg #[.slice none 0 0,.slice none 0 0]:=hdep ⟨0,.data⟩ (by simp) rfl _ _ rfl rfl
     clear hag hdep hun
     refine⟨λh=>by simp[bkL] at h,λb hb hU=>?_⟩
     obtain rfl:ba=b:=by simpa [bkL] using hb
     refine relStep_off rfl ?_
     rotate_left
     ·omega
     all_goals (repeat' first|(with_reducible first|exact⟨⟩|(refine gB ?_;intros)|refine gT ?_ ?_)|refine gs ?_|refine sx ?_)
     all_goals first
      |(exact storeAgg_intro (vs:=[.slice none 0 0,.slice none 0 0]) KR (show Blk w9 ba _ _ from hU.trans (kba.2.1 wq FR)) rfl (by simp[Value.oneCell']) λw' hb' hc'=>⟨hc',hb'⟩)
    ·intro g9 w9 hx9 hR hS9 hag
     have s9:=hx9.sb
     simp only[Sb,List.mem_cons,List.not_mem_nil,or_false,forall_eq_or_imp,forall_eq] at s9
     have n9:Now w9:=trivial
     have r9:=Ext.refl w9
     have z9:=hx9.size
     have d4:(g9 42)=.int .i64 (L[k]:Nat):=hR 4 _ _ (by decide) rfl rfl
     obtain⟨vs5,d5⟩:=hS9 5 _ (by decide) rfl
     replace d5:Blk w9 ba 36 [.slice none 0 0,.slice none 0 0]:=d5
     have a10:=hag.at 10 KR
     have a36:=hag.at 36 KR
     simp only[S5,↓reduceIte,Nat.reduceEqDiff,initF, *] at a10 a36
     clear hag hR hS9
     simp only[List.drop_succ_cons,List.drop_zero]
     have ka5:=d5.bk
     (repeat' first|(with_reducible first|exact⟨⟩|(refine gB ?_;intros)|refine gT ?_ ?_)|refine gs ?_|refine sx ?_)
     exact⟨_,rfl,AgW.none⟩
 ·rintro g wk nk sk ck hbl ⟨hi,hf,h,r,x,ws,hbk,hba,hXa,hp⟩
  simp(maxDischargeDepth:=3) only[U,↓reduceIte,Nat.reduceEqDiff, *] at hf
  have hd:=hp.out.done
  have hxe:=hp.out.xe
  rw[hd]
  simp only[if_true]
  rw[←hxe]
  have kb7:=hbk.bk
  have kba:=hba.bk
  have hwk:w.heap.size≤wk.heap.size:=FR
  have h7h:=(hXa.out.slW (Nat.le_trans hB hwk)).h.one
  have h7r:=(hXa.out.slW (Nat.le_trans hB hwk)).r.one
  have rk:=Ext.refl wk
  have ca:Cg ba wk wk:=Chg.refl' wk ba
  clear hp hd hxe hrb
  (repeat' first|(with_reducible first|exact⟨⟩|(refine gB ?_;intros)|refine gT ?_ ?_)|refine gs ?_|refine sx ?_)
  rename_i wz nz kz sz
  have cz:Cg ba wk wz:=FR
  exact⟨_,rfl,_,_,rfl,hXa.out.frW hba cz hBa (Nat.le_trans hB hwk)⟩
theorem ref21after(hB:B≤w.heap.size)(hs:SiteR w B u sd)(hl:WishR w B wv l)(hpl:PlanR w B sv av vs p)(hx0:OwnW Bo (.agg #[hv,rv]) w y)(hBo:Bo≤w.heap.size)(ho:Sl w Bo none 1 ov (L.map natV))(hL:∀i∈L,i<p.steps.length)(hLn:L.length≤4096) :
 CallsV Tryz.prog 46 #[.agg (siteC u sd).toArray,.agg #[wv],.agg #[hv,rv],.agg #[sv,av],ov] w λr w'=>Ext w w'∧∃v0,r=.tuple #[v0,intV (runL sd (l.map (·.x)) p.steps L y).2]∧OwnW Bo v0 w' (if (runL sd (l.map (·.x)) p.steps L y).2=-1 then lastW (runL sd (l.map (·.x)) p.steps L y).1 y else noW):=by
 obtain⟨hv',rv',hev,hoh,hor⟩:=hx0
 obtain⟨rfl,rfl⟩:hv'=hv∧rv'=rv:=by simpa [eq_comm] using hev
 refine CallsV.mono (ref21from (Qa:=False) hB hs hl hpl (.inr ⟨hoh,hor⟩) hBo ho hL hLn) λr w' hh=>⟨hh.1,?_⟩
 obtain⟨_,v0,rfl,h,r,rfl,ha⟩:=hh
 exact⟨_,rfl,h,r,rfl,(ha.resolve_left λk=>k.1).1,(ha.resolve_left λk=>k.1).2⟩
theorem ref21World{x e:Int}(hB:B≤w.heap.size)(hs:SiteR w B u sd)(hl:WishR w B wv l)(hpl:PlanR w B sv av vs p)(hx0:WorldR w B hv rv y)(he:planErr sd (l.map (·.x)) p=e) :
 CallsV Tryz.prog 21 #[.agg (siteC u sd).toArray,.agg #[wv],.agg #[hv,rv],.agg #[sv,av],intV x] w λr w'=>Ext w w'∧∃v0,r=.tuple #[v0,intV (wldE e sd (l.map (·.x)) p y x)]∧OwnW w.heap.size v0 w' (wldW e sd (l.map (·.x)) p y x):=by
 have⟨hn,hx⟩:=bg0 w
 have hs':=hs.sk hB
 have hl':=hl.sk hB
 have hp':=hpl.sk hB
 have hx':=hx0.sk hB
 have hS:=hs'.2.2.2.2.2.2
 have hW:=hl'.2.2
 have hP:=hp'.2.2.2.2.2.2
 have hX:=hx'.2.2.2.2
 have hbw:Bl B w w:=Bl.refl hB
 have hsv1:=hpl.s.one
 have hav1:=hp'.2.2.2.2.1
 have hh1:=hx0.h.one
 have hr1:=hx0.r.one
 have hsf:=λh0=>seq_facts (x:=x) he h0
 replace hsf:Hid _:=hsf
 have he':Hid (planErr sd (l.map (·.x)) p=e):=he
 unfold wldW wldE
 clear he hpl hx0 hp' hx' hs' hl'
 (refine callsV_of Tryz.func21 rfl KR KR ?_;rw[Tryz.results21])
 (repeat' first|(with_reducible first|exact⟨⟩|(refine gB ?_;intros)|refine gT ?_ ?_)|refine gs ?_|refine sxRef210 ?_)
 refine call_k (ref20Sequence (x:=x) (B:=B) FR (hS _ FR) (hW _ FR) (hP _ FR) he'.out) ?_
 rintro _ w1 n1 s1 ⟨ov,rfl,hov⟩
 have ovone:=hov.one
 by_cases h0:askedE e p x=0
 rotate_left
 ·simp only[if_neg h0]
  clear hov hsf
  generalize askedE e p x=E at *
  have hE1:(E == 0)=false:=by simpa using h0
  have hE2:(E != 0)=true:=by simpa using h0
  (repeat' first|(with_reducible first|exact⟨⟩|(refine gB ?_;intros)|refine gT ?_ ?_)|refine gs ?_|refine sx ?_)
  exact⟨_,rfl,OwnW.none _ _⟩
 obtain⟨rfl,hsh,hchk,hlen,hLlt,hnd⟩:=hsf.out h0
 simp only[h0,if_true] at hov ⊢
 have hovs:=(hov.sl1 (f:=natV))
 clear hov hsf hsh hchk hnd
 generalize seqF p x.toNat 4096 0=L at *
 cases hv0:validB sd (l.map (·.x)) y
 ·simp only[Bool.false_eq_true,if_false]
  (repeat' first|(with_reducible first|exact⟨⟩|(refine gB ?_;intros)|refine gT ?_ ?_)|refine gs ?_|((with_reducible refine at_f 45 ?_);refine ret_k (ref13Valid (B:=B) FR (hS _ FR) (hW _ FR) (hX _ FR)) λ_ _ _=>?_)|refine sx ?_)
  exact⟨_,rfl,OwnW.none _ _⟩
 simp only[if_true]
 obtain⟨hlh,hlr⟩:=valid_len24 hv0
 have hob:=λw' (h:Bl w1.heap.size w1 w')=>hovs.bl h
 replace hob:Hid _:=hob
 have b1:Bl w1.heap.size w1 w1:=Bl.refl (Nat.le_refl _)
 have hrb:=runL_bad (s:=sd) (wl:=l.map (·.x)) (steps:=p.steps) L y
 have hLlt':Hid (∀i∈L,i<p.steps.length):=hLlt
 have hcl:Hid (y.hosts.length<1000000000000∧y.replicas.length<1000000000000):=⟨by omega,by omega⟩
 clear hLlt hovs
 (repeat' first|((with_reducible refine wpd_at 6 ?_);refine wpd_hold ?_)|(with_reducible first|exact⟨⟩|(refine gB ?_;intros)|refine gT ?_ ?_)|refine gs ?_|((with_reducible refine at_f 45 ?_);refine ret_k (ref13Valid (B:=B) FR (hS _ FR) (hW _ FR) (hX _ FR)) λ_ _ _=>?_)|refine sx ?_)
 rename_i wk nk sk
 have hBk:B≤wk.heap.size:=FR
 have hwk:w.heap.size≤wk.heap.size:=FR
 have bwk:Bl wk.heap.size wk wk:=Bl.refl (Nat.le_refl _)
 have hobk:Sl wk wk.heap.size none 1 ov (L.map natV):=(hob.out _ FR).more FR
 have hobx:=λw' (h:Bl wk.heap.size wk w')=>hobk.bl h
 replace hobx:Hid _:=hobx
 have hAf:=λw' (h1:Bl B w w') (h2:Bl wk.heap.size wk w') (h3:wk.heap.size≤w'.heap.size) (a b:Value) (ho:OwnW wk.heap.size (.agg #[a,b]) w' y)=>ref21after (B:=wk.heap.size) (Bo:=wk.heap.size) h3 ((hS w' h1).up24 hBk) ((hW w' h1).up24 hBk) ((hP w' h1).up24 hBk) ho h3 (hobx.out w' h2) hLlt'.out (by omega)
 clear hobk hob
 generalize runL sd (l.map (·.x)) p.steps L y=q at *
 obtain⟨ws,bad⟩:=q
 simp only at hrb hAf ⊢
 unfold wpdH
 refine wpd_relS 12 [(11,10)] (λiI s v w9=>match iI with
  |0=>v=.agg (siteC u sd).toArray
  |1=>v=.agg #[wv]
  |2=>v=.agg #[hv,rv]
  |3=>∃a b,v=.agg #[a,b]∧OwnH w9 wk.heap.size a y.hosts∧OwnP w9 wk.heap.size b y.replicas
  |4=>v=.agg #[sv,av]
  |5=>v=ov
  |6=>∃u,v=.tuple #[u,intV bad]∧OwnW wk.heap.size u w9 (if bad=-1 then lastW ws y else noW)
  |7=>∃u,v=.tuple #[u,intV bad]∧OwnW wk.heap.size u w9 (if bad=-1 then lastW ws y else noW)
  |8=>OwnW wk.heap.size v w9 (if bad=-1 then lastW ws y else noW)
  |9=>v=intV bad
  |10=>∃b,v=.pointer (some ⟨b,0,none⟩)∧wk.heap.size≤b∧(s=false→Blk w9 b 36 [.slice none 0 0,.slice none 0 0])∧(s=true→∃h r,Blk w9 b 36 [h,r]∧OwnH w9 wk.heap.size h (if bad=-1 then lastW ws y else noW).hosts∧OwnP w9 wk.heap.size r (if bad=-1 then lastW ws y else noW).replicas)
  |11=>True
  |_=>False) KR KR KR KR ?_ ?_ ?_
 ·intro iI s v w1 w2 hR hx9
  match iI,hR with
  |0,h|1,h|2,h=>exact h
  |3,h=>exact(let ⟨a,b,e,o1,o2⟩:=h;⟨a,b,e,o1.ext hx9,o2.ext hx9⟩)
  |4,h|5,h=>exact h
  |6,h=>exact(let ⟨u,e,o⟩:=h;⟨u,e,o.ext hx9⟩)
  |7,h=>exact(let ⟨u,e,o⟩:=h;⟨u,e,o.ext hx9⟩)
  |8,h=>exact OwnW.ext h hx9
  |9,h=>exact h
  |10,⟨b,e,h1,h2,h3⟩=>exact⟨b,e,h1,λhs=>(h2 hs).ext hx9,λhs=>(λh=>(let ⟨a,b,k,o1,o2⟩:=h;⟨a,b,k.ext hx9,o1.ext hx9,o2.ext hx9⟩)) (h3 hs)⟩
  |11,h=>exact h
 ·intro iI oO hi ho gF w9 S9 hx9 hdep hag
  have⟨s9,n9,r9,z9⟩:=bg9 hx9
  rcases iI with _|_|_|_|_|_|_|_|_|_|_|_|iI
  cases ho
  have a5:=hag.at 5 KR
  simp only[S5,↓reduceIte,Nat.reduceEqDiff,initF, *] at a5
  clear hag hdep
  refine rO ?_
  rotate_left
  cases ho
  have a6:=hag.at 6 KR
  simp only[S5,↓reduceIte,Nat.reduceEqDiff,initF, *] at a6
  clear hag hdep
  refine rO ?_
  rotate_left
  cases ho
  have a7:=hag.at 7 KR
  simp only[S5,↓reduceIte,Nat.reduceEqDiff,initF, *] at a7
  clear hag hdep
  refine rO ?_
  rotate_left
  cases ho
  have d2:(gF 37)=.agg #[hv,rv]:=hdep ⟨2,.data⟩ (by simp) rfl _ _ rfl rfl
  clear hag hdep
  refine rO ?_
  rotate_left
  cases ho
  have a8:=hag.at 8 KR
  simp only[S5,↓reduceIte,Nat.reduceEqDiff,initF, *] at a8
  clear hag hdep
  refine rO ?_
  rotate_left
  cases ho
  have a12:=hag.at 12 KR
  simp only[S5,↓reduceIte,Nat.reduceEqDiff,initF, *] at a12
  clear hag hdep
  refine rO ?_
  rotate_left
  cases ho
  have d0:(gF 35)=.agg (siteC u sd).toArray:=hdep ⟨0,.data⟩ (by simp) rfl _ _ rfl rfl
  have d1:(gF 36)=.agg #[wv]:=hdep ⟨1,.data⟩ (by simp) rfl _ _ rfl rfl
  obtain⟨xa,xb,e3,oa3,ob3⟩:=hdep ⟨3,.data⟩ (by simp) rfl _ _ rfl rfl
  have d4:(gF 39)=.agg #[sv,av]:=hdep ⟨4,.data⟩ (by simp) rfl _ _ rfl rfl
  have d5:(gF 40)=ov:=hdep ⟨5,.data⟩ (by simp) rfl _ _ rfl rfl
  clear hag hdep
  refine rO ?_
  rotate_left
  cases ho
  obtain⟨u7,e7,o7⟩:=hdep ⟨6,.data⟩ (by simp) rfl _ _ rfl rfl
  clear hag hdep
  refine rO ?_
  rotate_left
  cases ho
  obtain⟨u8,e8,o8⟩:=hdep ⟨7,.data⟩ (by simp) rfl _ _ rfl rfl
  clear hag hdep
  refine rO ?_
  rotate_left
  cases ho
  obtain⟨u8,e8,o8⟩:=hdep ⟨7,.data⟩ (by simp) rfl _ _ rfl rfl
  clear hag hdep
  refine rO ?_
  rotate_left
  cases ho
  clear hag hdep
  refine rO ?_
  rotate_left
  cases ho
  obtain⟨b10,e10,q10,hz10,_⟩:=hdep ⟨10,.data⟩ (by simp) rfl _ _ rfl rfl
  have d8:OwnW wk.heap.size (gF 42) w9 (if bad=-1 then lastW ws y else noW):=hdep ⟨8,.data⟩ (by simp) rfl _ _ rfl rfl
  obtain⟨h9,r9',e9,oh9,or9⟩:=d8
  have H9:=oh9.one
  have R9:=or9.one
  clear hag hdep
  refine⟨λh=>by simp[alL] at h,λa9 pa da hal hS9 hpa hda=>?_⟩
  obtain rfl:10=a9:=by simpa [alL] using hal
  obtain rfl:=Option.some.inj hpa
  obtain rfl:=Option.some.inj hda
  have hz:=hz10 hS9
  clear hal hpa hda hz10
  refine relStep_off rfl ?_
  rotate_left
  ·omega
  all_goals (repeat' first|(with_reducible first|exact⟨⟩|(refine gB ?_;intros)|refine gT ?_ ?_)|refine gs ?_|refine sxRef210 ?_)
  all_goals first
   |(refine CallsV.mono (ref13Copy (B:=B) FR (hX _ FR) hcl.out) λv w10 hh=>⟨hh.1,?_⟩;obtain⟨_,h3,r3,rfl,o1,o2⟩:=hh;exact⟨_,_,rfl,o1.more z9,o2.more z9⟩)
   |(refine CallsV.mono (hAf _ FR FR FR _ _ ⟨_,_,rfl,oa3,ob3⟩) λv w10 hh=>⟨hh.1,hh.2⟩)
   |(exact⟨u7,rfl,o7⟩)
   |(exact o8)
   |(rename_i b10 w10 n10 k10 s10 q10;exact⟨_,rfl,FR,λ_=>k10.2.1 _ k10.2.2.1,λh=>absurd h (by decide)⟩)
   |(
    refine stT_agg (w0:=w9) (vs:=[h9,r9']) hz rfl KR rfl (by simp[H9,R9]) λw10 hb10 hc=>⟨b10,hc,q10,⟨b10,(by first|exact e10|rfl),q10,λh=>absurd h (by decide),λ_=>⟨h9,r9',hb10,oh9.fr hz hc (.inl (by decide)),or9.fr hz hc (.inl (by decide))⟩⟩,?_⟩
    intro iI s v hne hR
    match iI,hR with
    |0,h|1,h|2,h|4,h|5,h|9,h|11,h=>exact h
    |3,h=>exact(let ⟨a,b,e,o1,o2⟩:=h;⟨a,b,e,o1.fr hz hc (.inl (by decide)),o2.fr hz hc (.inl (by decide))⟩)
    |6,h=>exact(let ⟨u,e,o⟩:=h;⟨u,e,ownW_fr24 o hz hc⟩)
    |7,h=>exact(let ⟨u,e,o⟩:=h;⟨u,e,ownW_fr24 o hz hc⟩)
    |8,h=>exact ownW_fr24 h hz hc
    |10,_=>exact absurd rfl hne)
 ·intro g9 w9 hx9 hR hag
  have⟨s9,n9,r9,z9⟩:=bg9 hx9
  have d1:(g9 36)=.agg #[wv]:=hR 1 _ _ (by decide) rfl rfl
  have d9:(g9 43)=intV bad:=hR 9 _ _ (by decide) rfl rfl
  have d10:∃b,(g9 14)=.pointer (some ⟨b,0,none⟩)∧wk.heap.size≤b∧(true=false→Blk w9 b 36 [.slice none 0 0,.slice none 0 0])∧(true=true→∃h r,Blk w9 b 36 [h,r]∧OwnH w9 wk.heap.size h (if bad=-1 then lastW ws y else noW).hosts∧OwnP w9 wk.heap.size r (if bad=-1 then lastW ws y else noW).replicas):=hR 10 _ _ (by decide) rfl rfl
  obtain⟨b10,e10,q10,_,f10⟩:=d10
  replace f10:=f10 rfl
  have nw10:=Nw.of q10
  obtain⟨hA,rA,kwA,ohA,orA⟩:=f10
  have KWA:=kwA.bk
  have HAone:=ohA.one
  have RAone:=orA.one
  have a10:=hag.at 10 KR
  simp only[S5,↓reduceIte,Nat.reduceEqDiff,initF, *] at a10
  clear hag hR
  simp only[List.drop_succ_cons,List.drop_zero]
  rcases hrb with rfl|hbad
  ·simp only[if_true] at ohA orA ⊢
   have OA:=ohA.o
   have OB:=orA.o
   have r9:=Ext.refl w9
   clear hAf ohA orA
   (repeat' first|(with_reducible first|exact⟨⟩|(refine gB ?_;intros)|refine gT ?_ ?_)|refine gs ?_|refine sx ?_)
   exact⟨_,rfl,_,_,rfl,Own.more (OA.1 _ FR) hwk,Own.more (OB.1 _ FR) hwk⟩
  ·have hb1:¬bad=-1:=by omega
   simp only[if_neg hb1]
   clear hAf ohA orA
   (repeat' first|(with_reducible first|exact⟨⟩|(refine gB ?_;intros)|refine gT ?_ ?_)|refine gs ?_|refine sx ?_)
   exact⟨_,rfl,OwnW.none _ _⟩
end
end Go.Proofs.YtphciegaokdolaaGreatDoor
