
/- The document's answer, layer 21: look, Check. -/
import Derived.Test.YtphciegaokdolaaGreatDoorKeepM24
import Derived.Test.YtphciegaokdolaaGreatDoorKeepL24
import Derived.Test.YtphciegaokdolaaGreatDoorKeepL24
namespace Go.Proofs.YtphciegaokdolaaGreatDoor
set_option linter.unusedSimpArgs false
set_option linter.unusedVariables false
open Go Go.RowKit
set_option maxRecDepth 100000
set_option linter.unusedSectionVars false
set_option maxHeartbeats 4000000
theorem sxKeepO240{p q:Prop}(hq:q)(h:p=q:=by first|(simp(maxDischargeDepth:=3) only[↓X,↓Y,↓Q,S1,↓reduceIte,Nat.reduceEqDiff,Nat.reduceAdd,Int.reduceLT,Int.reduceLE,Int.reduceNeg,Int.reduceBEq,Int.reduceBNe,Int.reduceEq,Nat.reduceLeDiff,Nat.reduceMul,Nat.reduceLT, *,siteC];try exact rfl)|(simp(singlePass:=true) (maxDischargeDepth:=99) only[*,S2,Nat.reduceLT,siteC];try exact rfl)):p:=h▸hq
theorem sxKeepO242{p q:Prop}(hq:q)(h:p=q:=by first|(simp(maxDischargeDepth:=3) only[↓X,↓Y,↓Q,S1,↓reduceIte,Nat.reduceEqDiff,Nat.reduceAdd,Int.reduceLT,Int.reduceLE,Int.reduceNeg,Int.reduceBEq,Int.reduceBNe,Int.reduceEq,Nat.reduceLeDiff,Nat.reduceMul,Nat.reduceLT, *,List.take_zero,List.all_nil,List.any_nil];try exact rfl)|(simp(singlePass:=true) (maxDischargeDepth:=99) only[*,S2,Nat.reduceLT,List.take_zero,List.all_nil,List.any_nil];try exact rfl)):p:=h▸hq
theorem sxKeepO243{p q:Prop}(hq:q)(h:p=q:=by first|(simp(maxDischargeDepth:=3) only[↓X,↓Y,↓Q,S1,↓reduceIte,Nat.reduceEqDiff,Nat.reduceAdd,Int.reduceLT,Int.reduceLE,Int.reduceNeg,Int.reduceBEq,Int.reduceBNe,Int.reduceEq,Nat.reduceLeDiff,Nat.reduceMul,Nat.reduceLT, *,siteC,stepV,stepC];try exact rfl)|(simp(singlePass:=true) (maxDischargeDepth:=99) only[*,S2,Nat.reduceLT,siteC,stepV,stepC];try exact rfl)):p:=h▸hq
theorem kind_broken{s:SiteD}{wl:List ServiceD}{x:WorldD}:∀z∈brokenB s wl x,z.kind≠0:=λz hz=>by
 unfold brokenB at hz
 split at hz
 ·unfold hostsB servicesB loadsB at hz
  simp only[List.mem_append,mem_flag,mem_nest,List.not_mem_nil,false_or] at hz
  rcases hz with (((⟨i,_,_,rfl⟩|⟨i,_,_,rfl⟩)|((((⟨i,_,_,rfl⟩|⟨i,_,j,_,_,rfl⟩)|⟨i,_,j,_,_,rfl⟩)|⟨i,_,j,_,_,rfl⟩)|⟨i,_,j,_,_,rfl⟩))|((⟨i,_,_,rfl⟩|⟨i,_,_,rfl⟩)|⟨i,_,_,rfl⟩))<;>simp
 ·cases hz
def BroR(w:World)(v:Value)(L:List BrokeD):Prop:=Sl w w.heap.size (some 3) 3 v (L.map brokeV)∧(L≠[]→OwnB w 0 v L)
theorem OwnB.bro{w:World}{B:Nat}{v:Value}{L:List BrokeD}(h:OwnB w B v L):BroR w v L:=⟨h.slN (f:=brokeC),λ_=>h.more (Nat.zero_le _)⟩
theorem BroR.ext{w w':World}{v:Value}{L:List BrokeD}(h:BroR w v L)(hx:Ext w w'):BroR w' v L:=⟨(h.1.ext hx (Nat.le_refl _)).more hx.size,λk=>(h.2 k).ext hx⟩
theorem BroR.fr{w w':World}{b:Nat}{v:Value}{L:List BrokeD}{r:List Value}(h:BroR w v L)(hk:∀z∈L,z.kind≠0)(hz:Blk w b 64 (.int .u8 0::r))(hc:Chg w w' b):BroR w' v L:=by
 cases L with
 |nil=>
  obtain⟨h1,h2,h3,h4,h5,h6⟩:=h.1
  have h2':lenN v=0:=by simpa using h2
  exact⟨⟨h1,h2,h3,h4,λb hb hl=>absurd hl (by omega),λi hi=>absurd hi (by simp)⟩,λk=>absurd rfl k⟩
 |cons a t=>
  have ho:=(h.2 (by simp)).fr hz hc (.inr ⟨.int .u8 a.kind,.int .u8 0,by simp[brokeC],rfl,λe=>hk a (List.mem_cons_self ..) (by simpa using e)⟩)
  exact⟨ho.slN (f:=brokeC),λ_=>ho⟩
section
variable{w:World}{B:Nat}{u:SiteVs}{sd:SiteD}{wv sv av hv rv:Value}{vs:List Value}{l:List SrvV}{p:PlanD}{y:WorldD}
theorem ref21look{d:Nat}(hB:B≤w.heap.size)(hs:SiteR w B u sd)(hl:WishR w B wv l)(hpl:PlanR w B sv av vs p)(hx0:WorldR w B hv rv y)(he:planErr sd (l.map (·.x)) p=0)(hd:d∈idealsL p) :
 CallsV Tryz.prog 48 #[.agg (siteC u sd).toArray,.agg #[wv],.agg #[hv,rv],.agg #[sv,av],natV d] w λr w'=>Ext w w'∧∃(f:List Value) (b:Bool),r=.tuple #[.agg f.toArray,.bool b]∧(f.length=5∧∀v∈f,v.oneCell'=true)∧(b=true→heldB sd (l.map (·.x)) p y d):=by
 have⟨hn,hx⟩:=bg0 w
 have hs':=hs.sk hB
 have hl':=hl.sk hB
 have hp':=hpl.sk hB
 have hx':=hx0.sk hB
 have hS:=hs'.2.2.2.2.2.2
 have hW:=hl'.2.2
 have hP:=hp'.2.2.2.2.2.2
 have hX:=hx'.2.2.2.2
 have hbw:Bl B w w:=Bl.refl hB
 have hst:=hp'.1
 have hsv1:=hpl.s.one
 have hav1:=hp'.2.2.2.2.1
 have hh1:=hx0.h.one
 have hr1:=hx0.r.one
 have hmax:=hpl.s.max_
 have hid:=(List.mem_filter.1 hd).2
 have hask:askedE 0 p (d:Int)=0:=by simp[askedE,idealI,hid]
 obtain⟨_,hsh,_,hlen,hLlt,_⟩:=seq_facts he hask
 have hd4:Hid (d<4096):=by
  simp only[idealB,Bool.and_eq_true,decide_eq_true_eq] at hid
  exact Nat.lt_of_lt_of_le hid.1 (two_pow_le hsh.small)
 have hsm:Hid (p.steps.length≤12):=hsh.small
 have he':Hid (planErr sd (l.map (·.x)) p=0):=he
 have hask':Hid (askedE 0 p (d:Int)=0):=hask
 have hsh':Hid (Shape p):=hsh
 have hLlt':Hid (∀i∈seqF p d 4096 0,i<p.steps.length):=hLlt
 have hlen':Hid ((seqF p d 4096 0).length≤12):=hlen
 have hsq:=λw' (h1:Bl B w w') (h3:B≤w'.heap.size)=>ref20Sequence (x:=(d:Int)) h3 (hS w' h1) (hW w' h1) (hP w' h1) he
 rw[hask] at hsq
 simp only[if_true,Int.toNat_natCast] at hsq
 replace hsq:Hid _:=hsq
 have hen:=λw' (h1:Bl B w w') (h3:B≤w'.heap.size)=>ref20Enabled (x:=(d:Int)) h3 (hS w' h1) (hW w' h1) (hP w' h1) he
 rw[hask] at hen
 simp only[if_true,Int.toNat_natCast] at hen
 replace hen:Hid _:=hen
 have hbrA:=λw' (h1:Bl B w w') (h3:B≤w'.heap.size)=>ref17Broken h3 (hS w' h1) (hW w' h1) (hX w' h1)
 replace hbrA:Hid _:=hbrA
 have hrb:=runL_bad (s:=sd) (wl:=l.map (·.x)) (steps:=p.steps) (seqF p d 4096 0) y
 have hfr:=λw' (h1:Bl B w w') (h3:B≤w'.heap.size) Bo ov (h4:Bo≤w'.heap.size) (h5:Sl w' Bo none 1 ov ((seqF p d 4096 0).map natV))=>ref21fromH (y:=y) h3 (hS w' h1) (hW w' h1) (hP w' h1) (hX w' h1) h4 h5 hLlt (Nat.le_trans hlen (by decide))
 replace hfr:Hid _:=hfr
 have hkA:Hid (∀z∈brokenB sd (l.map (·.x)) y,z.kind≠0):=kind_broken
 unfold heldB
 clear hs' hl' hp' hx' hpl hx0 hs hl hlen hLlt hsh hask he hid hd
 (refine callsV_of Tryz.func48 rfl KR KR ?_;rw[Tryz.results48])
 (repeat' first|(with_reducible first|exact⟨⟩|(refine gB ?_;intros)|refine gT ?_ ?_)|refine gs ?_|refine sxKeepO240 ?_)
 rename_i b5 w5 n5 k5 s5 q5 b6 w6 n6 k6 s6 q6 b7 w7 n7 k7 s7 q7 b8 w8 n8 k8 s8 q8 b10 w10 n10 k10 s10 q10
 refine call_k (hsq.out _ FR FR) ?_
 rintro _ w1 n1 s1 ⟨ov,rfl,hov⟩
 have ov1:=hov.one
 have hovx:Hid (∀w',Bl w1.heap.size w1 w'→Sl w' w1.heap.size none 1 ov ((seqF p d 4096 0).map natV)):=λw' h=>(hov.sl1 (f:=natV)).bl h
 have e1:Bl w1.heap.size w1 w1:=Bl.refl (Nat.le_refl _)
 clear hov hsq
 (repeat' first|(with_reducible first|exact⟨⟩|(refine gB ?_;intros)|refine gT ?_ ?_)|refine gs ?_|refine sxKeepO240 ?_)
 refine call_k (hfr.out _ FR FR w1.heap.size ov FR (hovx.out _ FR)) ?_
 rintro _ w2 n2 s2 ⟨v0,rfl,vh,vr,rfl,hvw⟩
 generalize runL sd (l.map (·.x)) p.steps (seqF p d 4096 0) y=q at *
 obtain⟨ws,bad⟩:=q
 simp only at hrb hvw ⊢
 have vh1:=hvw.h.one
 have vr1:=hvw.r.one
 have hVX:=(hvw.sk (Nat.le_refl _)).2.2.2.2
 have e2:Bl w2.heap.size w2 w2:=Bl.refl (Nat.le_refl _)
 clear hfr hovx hvw
 rcases hrb with rfl|hbad
 rotate_left
 ·(repeat' first|(with_reducible first|exact⟨⟩|(refine gB ?_;intros)|refine gT ?_ ?_)|refine gs ?_|refine sx ?_)
  all_goals exact⟨_,false,rfl,⟨rfl,by simp[intV,Value.oneCell']⟩,by simp⟩
 simp only[if_true] at hVX
 obtain⟨V,hV⟩:∃V,V=lastW ws y:=⟨_,rfl⟩
 rw[←hV] at hVX ⊢
 have hkV:Hid (∀z∈brokenB sd (l.map (·.x)) V,z.kind≠0):=kind_broken
 have hbrV:=λw' (h0:Bl B w w') (h1:Bl w2.heap.size w2 w') (h3:w2.heap.size≤w'.heap.size) (h4:B≤w2.heap.size)=>ref17Broken (B:=w2.heap.size) h3 ((hS w' h0).up24 h4) ((hW w' h0).up24 h4) (hVX w' h1)
 replace hbrV:Hid _:=hbrV
 obtain⟨BY,hBY⟩:∃BY,BY=brokenB sd (l.map (·.x)) y:=⟨_,rfl⟩
 obtain⟨BV,hBV⟩:∃BV,BV=brokenB sd (l.map (·.x)) V:=⟨_,rfl⟩
 rw[←hBY,←hBV]
 rw[←hBY] at hbrA hkA
 rw[←hBV] at hbrV hkV
 obtain⟨kpb,hkpb⟩:∃kpb,kpb=keptB BY BV:=⟨_,rfl⟩
 have hkpt:Hid (∀w' u v,BroR w' u BY→BroR w' v BV→CallsV Tryz.prog 23 #[u,v] w' λr w''=>Ext w' w''∧∃z:BrokeD,r=.tuple #[brokeV z,.bool kpb]):=λw' u v h1 h2=>hkpb▸ref17Kept (Nat.le_refl _) (Nat.le_refl _) h1.1 h2.1
 rw[←hkpb]
 clear hV hBY hBV hkpb
 (repeat' first|(with_reducible first|exact⟨⟩|(refine gB ?_;intros)|refine gT ?_ ?_)|refine gs ?_|refine sx ?_)
 rename_i ba wa na ka sa qa wb nb kb sb
 refine loop_k (p.steps.length) (λg0 k g _=>g 16=.int .i64 k∧(g 4=g0 4∧g 5=g0 5∧g 6=g0 6∧g 7=g0 7∧g 8=g0 8∧g 10=g0 10∧g 14=g0 14)∧True) KR (hmax) ?_ ?_ ?_
 ·(repeat' first|(with_reducible first|exact⟨⟩|(refine gB ?_;intros)|refine gT ?_ ?_)|refine gs ?_|refine sxKeepO242 ?_)
 ·rintro k m g wk hk hlt _ _ _ hw ⟨hi,hf,hp⟩
  simp(maxDischargeDepth:=3) only[U,↓reduceIte,Nat.reduceEqDiff, *] at hf
  have hla:=λw' (h1:Bl B w w') (h3:B≤w'.heap.size)=>ref21last (set:=d) (place:=k) h3 (hP w' h1) hsh'.out hd4.out (by have:=hsm.out;omega)
  (repeat' first|((with_reducible refine wpd_at 9 ?_);refine wpd_hold ?_)|(with_reducible first|exact⟨⟩|(refine gB ?_;intros)|refine gT ?_ ?_)|refine gs ?_|((with_reducible refine at_f 88 ?_);refine retb_k (hla _ FR FR) λ_ _ _ _=>?_)|refine sx ?_)
  rotate_left
  ·refine next_k hk hlt ?_ FR
   (repeat' first|(with_reducible first|exact⟨⟩|(refine gB ?_;intros)|refine gT ?_ ?_)|refine gs ?_|refine sx ?_)
  rename_i wq nq sq tq
  have hBq:B≤wq.heap.size:=FR
  have hwo:=λw' (h1:Bl B w w') (h3:B≤w'.heap.size) (z:Int)=>ref21World (x:=z) (y:=y) h3 (hS w' h1) (hW w' h1) (hP w' h1) (hX w' h1) rfl
  have hst9:k<p.steps.length:=hlt
  unfold wpdH
  refine wpd_relS 13 [(12,11)] (λiI s v w9=>match iI with
   |0=>v=.agg (siteC u sd).toArray
   |1=>v=.agg #[wv]
   |2=>v=.agg #[hv,rv]
   |3=>v=.agg #[sv,av]
   |4=>v=.int .i64 (d:Nat)
   |5=>v=.int .i64 (k:Nat)
   |6=>∃z:Int,v=intV z
   |7=>∃(E:Int) (W':WorldD) (u:Value),v=.tuple #[u,intV E]∧OwnW wq.heap.size u w9 W'
   |8=>∃(E:Int) (W':WorldD) (u:Value),v=.tuple #[u,intV E]∧OwnW wq.heap.size u w9 W'
   |9=>∃W':WorldD,OwnW wq.heap.size v w9 W'
   |10=>∃E:Int,v=intV E
   |11=>∃b,v=.pointer (some ⟨b,0,none⟩)∧wq.heap.size≤b∧(s=false→Blk w9 b 36 [.slice none 0 0,.slice none 0 0])∧(s=true→∃(h r:Value) (W':WorldD),Blk w9 b 36 [h,r]∧OwnH w9 wq.heap.size h W'.hosts∧OwnP w9 wq.heap.size r W'.replicas)
   |12=>True
   |_=>False) KR KR KR KR ?_ ?_ ?_
  ·intro iI s v w1 w2 hR hx9
   match iI,hR with
   |0,h|1,h|2,h|3,h|4,h|5,h|6,h=>exact h
   |7,h=>exact(let ⟨E,W',u,e,o⟩:=h;⟨E,W',u,e,o.ext hx9⟩)
   |8,h=>exact(let ⟨E,W',u,e,o⟩:=h;⟨E,W',u,e,o.ext hx9⟩)
   |9,h=>exact(let ⟨W',o⟩:=h;⟨W',o.ext hx9⟩)
   |10,h=>exact h
   |11,⟨b,e,h1,h2,h3⟩=>exact⟨b,e,h1,λhs=>(h2 hs).ext hx9,λhs=>(λh=>(let ⟨a,b,W',k,o1,o2⟩:=h;⟨a,b,W',k.ext hx9,o1.ext hx9,o2.ext hx9⟩)) (h3 hs)⟩
   |12,h=>exact h
  ·intro iI oO hi ho gF w9 S9 hx9 hdep hag
   have⟨s9,n9,r9,z9⟩:=bg9 hx9
   rcases iI with _|_|_|_|_|_|_|_|_|_|_|_|_|iI
   cases ho
   have a5:=hag.at 5 KR
   simp only[S5,↓reduceIte,Nat.reduceEqDiff,initF, *] at a5
   clear hag hdep
   refine rO ?_
   rotate_left
   cases ho
   have a6:=hag.at 6 KR
   simp only[S5,↓reduceIte,Nat.reduceEqDiff,initF, *] at a6
   clear hag hdep
   refine rO ?_
   rotate_left
   cases ho
   have a7:=hag.at 7 KR
   simp only[S5,↓reduceIte,Nat.reduceEqDiff,initF, *] at a7
   clear hag hdep
   refine rO ?_
   rotate_left
   cases ho
   have a8:=hag.at 8 KR
   simp only[S5,↓reduceIte,Nat.reduceEqDiff,initF, *] at a8
   clear hag hdep
   refine rO ?_
   rotate_left
   cases ho
   have a4:=hag.at 4 KR
   simp only[S5,↓reduceIte,Nat.reduceEqDiff,initF, *] at a4
   clear hag hdep
   refine rO ?_
   rotate_left
   cases ho
   have a16:=hag.at 16 KR
   simp only[S5,↓reduceIte,Nat.reduceEqDiff,initF, *] at a16
   clear hag hdep
   refine rO ?_
   rotate_left
   cases ho
   have d4:(gF 65)=.int .i64 (d:Nat):=hdep ⟨4,.data⟩ (by simp) rfl _ _ rfl rfl
   have d5:(gF 66)=.int .i64 (k:Nat):=hdep ⟨5,.data⟩ (by simp) rfl _ _ rfl rfl
   clear hag hdep
   refine rO ?_
   rotate_left
   cases ho
   have d0:(gF 61)=.agg (siteC u sd).toArray:=hdep ⟨0,.data⟩ (by simp) rfl _ _ rfl rfl
   have d1:(gF 62)=.agg #[wv]:=hdep ⟨1,.data⟩ (by simp) rfl _ _ rfl rfl
   have d2:(gF 63)=.agg #[hv,rv]:=hdep ⟨2,.data⟩ (by simp) rfl _ _ rfl rfl
   have d3:(gF 64)=.agg #[sv,av]:=hdep ⟨3,.data⟩ (by simp) rfl _ _ rfl rfl
   obtain⟨z6,e6⟩:=hdep ⟨6,.data⟩ (by simp) rfl _ _ rfl rfl
   clear hag hdep
   refine rO ?_
   rotate_left
   cases ho
   obtain⟨E7,W7,u7,e7,o7⟩:=hdep ⟨7,.data⟩ (by simp) rfl _ _ rfl rfl
   clear hag hdep
   refine rO ?_
   rotate_left
   cases ho
   obtain⟨E8,W8,u8,e8,o8⟩:=hdep ⟨8,.data⟩ (by simp) rfl _ _ rfl rfl
   clear hag hdep
   refine rO ?_
   rotate_left
   cases ho
   obtain⟨E8,W8,u8,e8,o8⟩:=hdep ⟨8,.data⟩ (by simp) rfl _ _ rfl rfl
   clear hag hdep
   refine rO ?_
   rotate_left
   cases ho
   clear hag hdep
   refine rO ?_
   rotate_left
   cases ho
   obtain⟨b11,e11,q11,hz11,_⟩:=hdep ⟨11,.data⟩ (by simp) rfl _ _ rfl rfl
   obtain⟨W9,h9,r9',e9,oh9,or9⟩:=hdep ⟨9,.data⟩ (by simp) rfl _ _ rfl rfl
   have H9:=oh9.one
   have R9:=or9.one
   clear hag hdep
   refine⟨λh=>by simp[alL] at h,λa9 pa da hal hS9 hpa hda=>?_⟩
   obtain rfl:11=a9:=by simpa [alL] using hal
   obtain rfl:=Option.some.inj hpa
   obtain rfl:=Option.some.inj hda
   have hz:=hz11 hS9
   clear hal hpa hda hz11
   refine relStep_off rfl ?_
   rotate_left
   ·omega
   all_goals (repeat' first|(with_reducible first|exact⟨⟩|(refine gB ?_;intros)|refine gT ?_ ?_)|refine gs ?_|refine sxKeepO240 ?_)
   all_goals first
    |(refine CallsV.mono (ref21without (set:=d) (place:=k) (by have:=hsm.out;omega)) λv w10 hh=>hh)
    |(refine CallsV.mono (hwo _ FR FR z6) λv w10 hh=>⟨hh.1,?_⟩;obtain⟨_,u0,rfl,ho⟩:=hh;exact⟨_,_,u0,rfl,ho.more z9⟩)
    |(exact⟨_,_,u7,rfl,o7⟩)
    |(exact⟨_,o8⟩)
    |(exact⟨_,rfl⟩)
    |(rename_i b10 w10 n10 k10 s10 q10;exact⟨_,rfl,FR,λ_=>k10.2.1 _ k10.2.2.1,λh=>absurd h (by decide)⟩)
    |(
     refine stT_agg (w0:=w9) (vs:=[h9,r9']) hz rfl KR rfl (by simp[H9,R9]) λw10 hb10 hc=>⟨b11,hc,q11,⟨b11,(by first|exact e11|rfl),q11,λh=>absurd h (by decide),λ_=>⟨h9,r9',W9,hb10,oh9.fr hz hc (.inl (by decide)),or9.fr hz hc (.inl (by decide))⟩⟩,?_⟩
     intro iI s v hne hR
     match iI,hR with
     |0,h|1,h|2,h|3,h|4,h|5,h|12,h|6,h=>exact h
     |7,h=>exact(let ⟨E,W',u,e,o⟩:=h;⟨E,W',u,e,ownW_fr24 o hz hc⟩)
     |8,h=>exact(let ⟨E,W',u,e,o⟩:=h;⟨E,W',u,e,ownW_fr24 o hz hc⟩)
     |9,h=>exact(let ⟨W',o⟩:=h;⟨W',ownW_fr24 o hz hc⟩)
     |10,h=>exact h
     |11,_=>exact absurd rfl hne)
  ·intro g9 w9 hx9 hR hag
   have⟨s9,n9,r9,z9⟩:=bg9 hx9
   have d5:(g9 66)=.int .i64 (k:Nat):=hR 5 _ _ (by decide) rfl rfl
   have d10:∃E:Int,(g9 70)=intV E:=hR 10 _ _ (by decide) rfl rfl
   obtain⟨E10,e10⟩:=d10
   have d11:∃b,(g9 17)=.pointer (some ⟨b,0,none⟩)∧wq.heap.size≤b∧(true=false→Blk w9 b 36 [.slice none 0 0,.slice none 0 0])∧(true=true→∃(h r:Value) (W':WorldD),Blk w9 b 36 [h,r]∧OwnH w9 wq.heap.size h W'.hosts∧OwnP w9 wq.heap.size r W'.replicas):=hR 11 _ _ (by decide) rfl rfl
   obtain⟨b11,e11,q11,_,f11⟩:=d11
   replace f11:=f11 rfl
   have nw11:=Nw.of q11
   obtain⟨hA,rA,WA,kwA,ohA,orA⟩:=f11
   have KWA:=kwA.bk
   have HAone:=ohA.one
   have RAone:=orA.one
   have a4:=hag.at 4 KR
   have a5:=hag.at 5 KR
   have a6:=hag.at 6 KR
   have a7:=hag.at 7 KR
   have a8:=hag.at 8 KR
   have a10:=hag.at 10 KR
   have a14:=hag.at 14 KR
   have a16:=hag.at 16 KR
   simp only[S5,↓reduceIte,Nat.reduceEqDiff,initF, *] at a4 a5 a6 a7 a8 a10 a14 a16
   clear hag hR
   simp only[List.drop_succ_cons,List.drop_zero]
   have hXA:WorldR w9 w9.heap.size hA rA WA:=⟨ohA.slN (f:=stateC),orA.slN (f:=replC)⟩
   clear ohA orA
   obtain⟨wr,hwr⟩:∃wr,wr=w9:=⟨_,rfl⟩
   subst hwr
   have hX2:=(hXA.sk (Nat.le_refl _)).2.2.2.2
   have hBr:B≤wr.heap.size:=FR
   have er:Bl wr.heap.size wr wr:=Bl.refl (Nat.le_refl _)
   have hap:=λw' (h1:Bl B w w') (h2:Bl wr.heap.size wr w') (h3:wr.heap.size≤w'.heap.size)=>ref19Apply (st:=p.steps[k]) (B:=wr.heap.size) h3 ((hS w' h1).up24 hBr) ((hW w' h1).up24 hBr) (hX2 w' h2)
   clear hwo hla hXA
   (repeat' first|((with_reducible refine wpd_at 10 ?_);refine wpd_hold ?_)|(with_reducible first|exact⟨⟩|(refine gB ?_;intros)|refine gT ?_ ?_)|refine gs ?_|refine sxKeepO240 ?_)
   unfold wpdH
   refine wpd_relS 14 [(13,12)] (λiI s v w9=>match iI with
    |0=>v=.agg (siteC u sd).toArray
    |1=>v=.agg #[wv]
    |2=>v=.agg #[hA,rA]
    |3=>v=.pointer (some ⟨b8,0,none⟩)
    |4=>v=sv
    |5=>v=.int .i64 (k:Nat)
    |6=>v=elemAt sv 4 k
    |7=>v=stepV p.steps[k]
    |8=>∃(E:Int) (W':WorldD) (u:Value),v=.tuple #[u,intV E]∧OwnW wr.heap.size u w9 W'
    |9=>∃(E:Int) (W':WorldD) (u:Value),v=.tuple #[u,intV E]∧OwnW wr.heap.size u w9 W'
    |10=>∃W':WorldD,OwnW wr.heap.size v w9 W'
    |11=>∃E:Int,v=intV E
    |12=>∃b,v=.pointer (some ⟨b,0,none⟩)∧wr.heap.size≤b∧(s=false→Blk w9 b 36 [.slice none 0 0,.slice none 0 0])∧(s=true→∃(h r:Value) (W':WorldD),Blk w9 b 36 [h,r]∧OwnH w9 wr.heap.size h W'.hosts∧OwnP w9 wr.heap.size r W'.replicas)
    |13=>True
    |_=>False) KR KR KR KR ?_ ?_ ?_
   ·intro iI s v w1 w2 hR hx9
    match iI,hR with
    |0,h|1,h|2,h|3,h|4,h|5,h|6,h|7,h=>exact h
    |8,h=>exact(let ⟨E,W',u,e,o⟩:=h;⟨E,W',u,e,o.ext hx9⟩)
    |9,h=>exact(let ⟨E,W',u,e,o⟩:=h;⟨E,W',u,e,o.ext hx9⟩)
    |10,h=>exact(let ⟨W',o⟩:=h;⟨W',o.ext hx9⟩)
    |11,h=>exact h
    |12,⟨b,e,h1,h2,h3⟩=>exact⟨b,e,h1,λhs=>(h2 hs).ext hx9,λhs=>(λh=>(let ⟨a,b,W',k,o1,o2⟩:=h;⟨a,b,W',k.ext hx9,o1.ext hx9,o2.ext hx9⟩)) (h3 hs)⟩
    |13,h=>exact h
   ·intro iI oO hi ho gF w9 S9 hx9 hdep hag
    have⟨s9,n9,r9,z9⟩:=bg9 hx9
    rcases iI with _|_|_|_|_|_|_|_|_|_|_|_|_|_|iI
    cases ho
    have a5:=hag.at 5 KR
    simp only[S5,↓reduceIte,Nat.reduceEqDiff,initF, *] at a5
    clear hag hdep
    refine rO ?_
    rotate_left
    cases ho
    have a6:=hag.at 6 KR
    simp only[S5,↓reduceIte,Nat.reduceEqDiff,initF, *] at a6
    clear hag hdep
    refine rO ?_
    rotate_left
    cases ho
    have a17:=hag.at 17 KR
    simp only[S5,↓reduceIte,Nat.reduceEqDiff,initF, *] at a17
    clear hag hdep
    refine rO ?_
    rotate_left
    cases ho
    have a8:=hag.at 8 KR
    simp only[S5,↓reduceIte,Nat.reduceEqDiff,initF, *] at a8
    clear hag hdep
    refine rO ?_
    rotate_left
    cases ho
    have d3:(gF 75)=.pointer (some ⟨b8,0,none⟩):=hdep ⟨3,.data⟩ (by simp) rfl _ _ rfl rfl
    clear hag hdep
    refine rO ?_
    rotate_left
    cases ho
    have a16:=hag.at 16 KR
    simp only[S5,↓reduceIte,Nat.reduceEqDiff,initF, *] at a16
    clear hag hdep
    refine rO ?_
    rotate_left
    cases ho
    have d4:(gF 76)=sv:=hdep ⟨4,.data⟩ (by simp) rfl _ _ rfl rfl
    have d5:(gF 77)=.int .i64 (k:Nat):=hdep ⟨5,.data⟩ (by simp) rfl _ _ rfl rfl
    clear hag hdep
    refine rO ?_
    rotate_left
    cases ho
    have d6:(gF 78)=elemAt sv 4 k:=hdep ⟨6,.data⟩ (by simp) rfl _ _ rfl rfl
    clear hag hdep
    refine rO ?_
    rotate_left
    cases ho
    have d0:(gF 72)=.agg (siteC u sd).toArray:=hdep ⟨0,.data⟩ (by simp) rfl _ _ rfl rfl
    have d1:(gF 73)=.agg #[wv]:=hdep ⟨1,.data⟩ (by simp) rfl _ _ rfl rfl
    have d2:(gF 74)=.agg #[hA,rA]:=hdep ⟨2,.data⟩ (by simp) rfl _ _ rfl rfl
    have d7:(gF 79)=stepV p.steps[k]:=hdep ⟨7,.data⟩ (by simp) rfl _ _ rfl rfl
    clear hag hdep
    refine rO ?_
    rotate_left
    cases ho
    obtain⟨E7,W7,u7,e7,o7⟩:=hdep ⟨8,.data⟩ (by simp) rfl _ _ rfl rfl
    clear hag hdep
    refine rO ?_
    rotate_left
    cases ho
    obtain⟨E8,W8,u8,e8,o8⟩:=hdep ⟨9,.data⟩ (by simp) rfl _ _ rfl rfl
    clear hag hdep
    refine rO ?_
    rotate_left
    cases ho
    obtain⟨E8,W8,u8,e8,o8⟩:=hdep ⟨9,.data⟩ (by simp) rfl _ _ rfl rfl
    clear hag hdep
    refine rO ?_
    rotate_left
    cases ho
    clear hag hdep
    refine rO ?_
    rotate_left
    cases ho
    obtain⟨b12,e12,q12,hz12,_⟩:=hdep ⟨12,.data⟩ (by simp) rfl _ _ rfl rfl
    obtain⟨W9,h9,r9',e9,oh9,or9⟩:=hdep ⟨10,.data⟩ (by simp) rfl _ _ rfl rfl
    have H9:=oh9.one
    have R9:=or9.one
    clear hag hdep
    refine⟨λh=>by simp[alL] at h,λa9 pa da hal hS9 hpa hda=>?_⟩
    obtain rfl:12=a9:=by simpa [alL] using hal
    obtain rfl:=Option.some.inj hpa
    obtain rfl:=Option.some.inj hda
    have hz:=hz12 hS9
    clear hal hpa hda hz12
    refine relStep_off rfl ?_
    rotate_left
    ·omega
    all_goals (repeat' first|(with_reducible first|exact⟨⟩|(refine gB ?_;intros)|refine gT ?_ ?_)|refine gs ?_|refine sxKeepO243 ?_)
    all_goals first
     |(refine CallsV.mono (hap _ FR FR FR) λv w10 hh=>⟨hh.1,?_⟩;obtain⟨_,u0,rfl,ho⟩:=hh;exact⟨_,_,u0,rfl,ho.more z9⟩)
     |(exact⟨_,_,u7,rfl,o7⟩)
     |(exact⟨_,o8⟩)
     |(exact⟨_,rfl⟩)
     |(rename_i b10 w10 n10 k10 s10 q10;exact⟨_,rfl,FR,λ_=>k10.2.1 _ k10.2.2.1,λh=>absurd h (by decide)⟩)
     |(
      refine stT_agg (w0:=w9) (vs:=[h9,r9']) hz rfl KR rfl (by simp[H9,R9]) λw10 hb10 hc=>⟨b12,hc,q12,⟨b12,(by first|exact e12|rfl),q12,λh=>absurd h (by decide),λ_=>⟨h9,r9',W9,hb10,oh9.fr hz hc (.inl (by decide)),or9.fr hz hc (.inl (by decide))⟩⟩,?_⟩
      intro iI s v hne hR
      match iI,hR with
      |0,h|1,h|2,h|3,h|4,h|5,h|6,h|7,h|13,h=>exact h
      |8,h=>exact(let ⟨E,W',u,e,o⟩:=h;⟨E,W',u,e,ownW_fr24 o hz hc⟩)
      |9,h=>exact(let ⟨E,W',u,e,o⟩:=h;⟨E,W',u,e,ownW_fr24 o hz hc⟩)
      |10,h=>exact(let ⟨W',o⟩:=h;⟨W',ownW_fr24 o hz hc⟩)
      |11,h=>exact h
      |12,_=>exact absurd rfl hne)
   ·intro g9 w9 hx9 hR hag
    have⟨s9,n9,r9,z9⟩:=bg9 hx9
    have d11:∃E:Int,(g9 82)=intV E:=hR 11 _ _ (by decide) rfl rfl
    obtain⟨E11,e11'⟩:=d11
    have d12:∃b,(g9 19)=.pointer (some ⟨b,0,none⟩)∧wr.heap.size≤b∧(true=false→Blk w9 b 36 [.slice none 0 0,.slice none 0 0])∧(true=true→∃(h r:Value) (W':WorldD),Blk w9 b 36 [h,r]∧OwnH w9 wr.heap.size h W'.hosts∧OwnP w9 wr.heap.size r W'.replicas):=hR 12 _ _ (by decide) rfl rfl
    obtain⟨b12,e12,q12,_,f12⟩:=d12
    replace f12:=f12 rfl
    have nw12:=Nw.of q12
    obtain⟨hD,rD,WD,kwD,ohD,orD⟩:=f12
    have KWD:=kwD.bk
    have HDone:=ohD.one
    have RDone:=orD.one
    have a4:=hag.at 4 KR
    have a5:=hag.at 5 KR
    have a6:=hag.at 6 KR
    have a7:=hag.at 7 KR
    have a8:=hag.at 8 KR
    have a10:=hag.at 10 KR
    have a14:=hag.at 14 KR
    have a16:=hag.at 16 KR
    have a18:=hag.at 18 KR
    have a66:=hag.at 66 KR
    simp only[S5,↓reduceIte,Nat.reduceEqDiff,initF, *] at a4 a5 a6 a7 a8 a10 a14 a16 a18 a66
    clear hag hR
    simp only[List.drop_succ_cons,List.drop_zero]
    have hXD:WorldR w9 w9.heap.size hD rD WD:=⟨ohD.slN (f:=stateC),orD.slN (f:=replC)⟩
    have hX3:=(hXD.sk (Nat.le_refl _)).2.2.2.2
    have e9x:Bl w9.heap.size w9 w9:=Bl.refl (Nat.le_refl _)
    have hsame:=λw' (h1:Bl w9.heap.size w9 w') (h2:Bl w2.heap.size w2 w') (h3:w9.heap.size≤w'.heap.size) (h4:w2.heap.size≤w'.heap.size)=>ref13Same h3 h4 (hX3 w' h1) (hVX w' h2)
    clear hap ohD orD hXD
    generalize decide (WD=V)=sb at *
    have hbad:∀f:List Value,f.length=5→(∀v∈f,v.oneCell'=true)→∃(f':List Value) (b:Bool),Value.tuple #[.agg f.toArray,.bool false]=.tuple #[.agg f'.toArray,.bool b]∧(f'.length=5∧∀v∈f',v.oneCell'=true)∧(b=true→kpb=true):=λf h1 h2=>⟨f,false,rfl,⟨h1,h2⟩,by simp⟩
    by_cases hE:E10=0
    ·have hE1:(E10 == 0)=true:=by simpa using hE
     have hE2:(E10 != 0)=false:=by simpa using hE
     by_cases hF:E11=0
     ·have hF1:(E11 == 0)=true:=by simpa using hF
      have hF2:(E11 != 0)=false:=by simpa using hF
      subst hE
      subst hF
      cases sb
      ·(repeat' first|(with_reducible first|exact⟨⟩|(refine gB ?_;intros)|refine gT ?_ ?_)|refine gs ?_|((with_reducible refine at_f 19 ?_);refine ret_k (hsame _ FR FR FR FR) λ_ _ _=>?_)|refine sx ?_)
       exact hbad [_,_,_,_,_] rfl (by simp[intV,Value.oneCell'])
      ·(repeat' first|(with_reducible first|exact⟨⟩|(refine gB ?_;intros)|refine gT ?_ ?_)|refine gs ?_|((with_reducible refine at_f 19 ?_);refine ret_k (hsame _ FR FR FR FR) λ_ _ _=>?_)|refine sx ?_)
       refine next_k hk hlt ?_ FR
       (repeat' first|(with_reducible first|exact⟨⟩|(refine gB ?_;intros)|refine gT ?_ ?_)|refine gs ?_|refine sx ?_)
     ·have hF1:(E11 == 0)=false:=by simpa using hF
      have hF2:(E11 != 0)=true:=by simpa using hF
      subst hE
      (repeat' first|(with_reducible first|exact⟨⟩|(refine gB ?_;intros)|refine gT ?_ ?_)|refine gs ?_|((with_reducible refine at_f 19 ?_);refine ret_k (hsame _ FR FR FR FR) λ_ _ _=>?_)|refine sx ?_)
      exact hbad [_,_,_,_,_] rfl (by simp[intV,Value.oneCell'])
    ·have hE1:(E10 == 0)=false:=by simpa using hE
     have hE2:(E10 != 0)=true:=by simpa using hE
     (repeat' first|(with_reducible first|exact⟨⟩|(refine gB ?_;intros)|refine gT ?_ ?_)|refine gs ?_|((with_reducible refine at_f 19 ?_);refine ret_k (hsame _ FR FR FR FR) λ_ _ _=>?_)|refine sx ?_)
     exact hbad [_,_,_,_,_] rfl (by simp[intV,Value.oneCell'])
 ·rintro g wk _ _ _ ⟨hi,hf,hp⟩
  simp(maxDischargeDepth:=3) only[U,↓reduceIte,Nat.reduceEqDiff, *] at hf
  (repeat' first|((with_reducible refine wpd_at 13 ?_);refine wpd_hold ?_)|(with_reducible first|exact⟨⟩|(refine gB ?_;intros)|refine gT ?_ ?_)|refine gs ?_|refine sx ?_)
  unfold wpdH
  refine wpd_relS 14 [(13,12)] (λiI s v w9=>match iI with
   |0=>v=.agg (siteC u sd).toArray
   |1=>v=.agg #[wv]
   |2=>v=.agg #[hv,rv]
   |3=>∃u0,v=u0∧BroR w9 u0 BY
   |4=>v=.agg (siteC u sd).toArray
   |5=>v=.agg #[wv]
   |6=>v=.agg #[vh,vr]
   |7=>∃u0,v=u0∧BroR w9 u0 BV
   |8=>∃z:BrokeD,v=.tuple #[brokeV z,.bool kpb]
   |9=>∃z:BrokeD,v=.tuple #[brokeV z,.bool kpb]
   |10=>∃z:BrokeD,v=brokeV z
   |11=>v=.bool kpb
   |12=>∃b,v=.pointer (some ⟨b,0,none⟩)∧wk.heap.size≤b∧(s=false→Blk w9 b 64 [.int .u8 0,.int .i64 0,.int .i64 0])∧(s=true→∃z:BrokeD,Blk w9 b 64 (brokeC z))
   |13=>True
   |_=>False) KR KR KR KR ?_ ?_ ?_
  ·intro iI s v w1 w2 hR hx9
   match iI,hR with
   |0,h|1,h|2,h=>exact h
   |3,h=>exact(let ⟨u,e,o⟩:=h;⟨u,e,o.ext hx9⟩)
   |4,h|5,h|6,h=>exact h
   |7,h=>exact(let ⟨u,e,o⟩:=h;⟨u,e,o.ext hx9⟩)
   |8,h|9,h|10,h|11,h=>exact h
   |12,⟨b,e,h1,h2,h3⟩=>exact⟨b,e,h1,λhs=>(h2 hs).ext hx9,λhs=>(λh=>(let ⟨a,k⟩:=h;⟨a,k.ext hx9⟩)) (h3 hs)⟩
   |13,h=>exact h
  ·intro iI oO hi ho gF w9 S9 hx9 hdep hag
   have⟨s9,n9,r9,z9⟩:=bg9 hx9
   rcases iI with _|_|_|_|_|_|_|_|_|_|_|_|_|_|iI
   cases ho
   have a5:=hag.at 5 KR
   simp only[S5,↓reduceIte,Nat.reduceEqDiff,initF, *] at a5
   clear hag hdep
   refine rO ?_
   rotate_left
   cases ho
   have a6:=hag.at 6 KR
   simp only[S5,↓reduceIte,Nat.reduceEqDiff,initF, *] at a6
   clear hag hdep
   refine rO ?_
   rotate_left
   cases ho
   have a7:=hag.at 7 KR
   simp only[S5,↓reduceIte,Nat.reduceEqDiff,initF, *] at a7
   clear hag hdep
   refine rO ?_
   rotate_left
   cases ho
   have d0:(gF 99)=.agg (siteC u sd).toArray:=hdep ⟨0,.data⟩ (by simp) rfl _ _ rfl rfl
   have d1:(gF 100)=.agg #[wv]:=hdep ⟨1,.data⟩ (by simp) rfl _ _ rfl rfl
   have d2:(gF 101)=.agg #[hv,rv]:=hdep ⟨2,.data⟩ (by simp) rfl _ _ rfl rfl
   clear hag hdep
   refine rO ?_
   rotate_left
   cases ho
   have a5:=hag.at 5 KR
   simp only[S5,↓reduceIte,Nat.reduceEqDiff,initF, *] at a5
   clear hag hdep
   refine rO ?_
   rotate_left
   cases ho
   have a6:=hag.at 6 KR
   simp only[S5,↓reduceIte,Nat.reduceEqDiff,initF, *] at a6
   clear hag hdep
   refine rO ?_
   rotate_left
   cases ho
   have a14:=hag.at 14 KR
   simp only[S5,↓reduceIte,Nat.reduceEqDiff,initF, *] at a14
   clear hag hdep
   refine rO ?_
   rotate_left
   cases ho
   have d4:(gF 103)=.agg (siteC u sd).toArray:=hdep ⟨4,.data⟩ (by simp) rfl _ _ rfl rfl
   have d5:(gF 104)=.agg #[wv]:=hdep ⟨5,.data⟩ (by simp) rfl _ _ rfl rfl
   have d6:(gF 105)=.agg #[vh,vr]:=hdep ⟨6,.data⟩ (by simp) rfl _ _ rfl rfl
   clear hag hdep
   refine rO ?_
   rotate_left
   cases ho
   obtain⟨u3,e3,o3⟩:=hdep ⟨3,.data⟩ (by simp) rfl _ _ rfl rfl
   obtain⟨u7,e7,o7⟩:=hdep ⟨7,.data⟩ (by simp) rfl _ _ rfl rfl
   clear hag hdep
   refine rO ?_
   rotate_left
   cases ho
   obtain⟨z8,e8⟩:=hdep ⟨8,.data⟩ (by simp) rfl _ _ rfl rfl
   clear hag hdep
   refine rO ?_
   rotate_left
   cases ho
   obtain⟨z9',e9'⟩:=hdep ⟨9,.data⟩ (by simp) rfl _ _ rfl rfl
   clear hag hdep
   refine rO ?_
   rotate_left
   cases ho
   obtain⟨z9',e9'⟩:=hdep ⟨9,.data⟩ (by simp) rfl _ _ rfl rfl
   clear hag hdep
   refine rO ?_
   rotate_left
   cases ho
   clear hag hdep
   refine rO ?_
   rotate_left
   cases ho
   obtain⟨b12,e12,q12,hz12,_⟩:=hdep ⟨12,.data⟩ (by simp) rfl _ _ rfl rfl
   obtain⟨z10,e10⟩:=hdep ⟨10,.data⟩ (by simp) rfl _ _ rfl rfl
   clear hag hdep
   refine⟨λh=>by simp[alL] at h,λa9 pa da hal hS9 hpa hda=>?_⟩
   obtain rfl:12=a9:=by simpa [alL] using hal
   obtain rfl:=Option.some.inj hpa
   obtain rfl:=Option.some.inj hda
   have hz:=hz12 hS9
   clear hal hpa hda hz12
   refine relStep_off rfl ?_
   rotate_left
   ·omega
   all_goals (repeat' first|(with_reducible first|exact⟨⟩|(refine gB ?_;intros)|refine gT ?_ ?_)|refine gs ?_|refine sxKeepO240 ?_)
   all_goals first
    |((with_reducible show CallsV Tryz.prog 24 #[_,_,.agg #[hv,rv]] _ _);refine CallsV.mono (hbrA.out _ FR FR) λv w10 hh=>⟨hh.1,_,rfl,hh.2.bro⟩)
    |((with_reducible show CallsV Tryz.prog 24 _ _ _);refine CallsV.mono (hbrV.out _ FR FR FR FR) λv w10 hh=>⟨hh.1,_,rfl,hh.2.bro⟩)
    |((with_reducible show CallsV Tryz.prog 23 _ _ _);refine CallsV.mono (hkpt.out _ _ _ o3 o7) λv w10 hh=>hh)
    |(exact⟨z8,rfl⟩)
    |(exact⟨z9',rfl⟩)
    |(rename_i b10 w10 n10 k10 s10 q10;exact⟨_,rfl,FR,λ_=>k10.2.1 _ k10.2.2.1,λh=>absurd h (by decide)⟩)
    |(
     refine stT_agg (w0:=w9) (vs:=brokeC z10) hz rfl KR rfl (by simp[brokeC,intV,Value.oneCell']) λw10 hb10 hc=>⟨b12,hc,q12,⟨b12,(by first|exact e12|rfl),q12,λh=>absurd h (by decide),λ_=>⟨z10,hb10⟩⟩,?_⟩
     intro iI s v hne hR
     match iI,hR with
     |0,h|1,h|2,h|4,h|5,h|6,h|11,h|13,h=>exact h
     |3,h=>exact(let ⟨u,e,o⟩:=h;⟨u,e,o.fr hkA.out hz hc⟩)
     |7,h=>exact(let ⟨u,e,o⟩:=h;⟨u,e,o.fr hkV.out hz hc⟩)
     |8,h|9,h|10,h=>exact h
     |12,_=>exact absurd rfl hne)
  ·intro g9 w9 hx9 hR hag
   have⟨s9,n9,r9,z9⟩:=bg9 hx9
   have d11:(g9 109)=.bool kpb:=hR 11 _ _ (by decide) rfl rfl
   have d12:∃b,(g9 21)=.pointer (some ⟨b,0,none⟩)∧wk.heap.size≤b∧(true=false→Blk w9 b 64 [.int .u8 0,.int .i64 0,.int .i64 0])∧(true=true→∃z:BrokeD,Blk w9 b 64 (brokeC z)):=hR 12 _ _ (by decide) rfl rfl
   obtain⟨b12,e12,q12,_,f12⟩:=d12
   replace f12:=f12 rfl
   have nw12:=Nw.of q12
   obtain⟨zA,kA⟩:=f12
   have KA:=kA.bk
   have a4:=hag.at 4 KR
   have a5:=hag.at 5 KR
   have a6:=hag.at 6 KR
   have a8:=hag.at 8 KR
   have a10:=hag.at 10 KR
   have a14:=hag.at 14 KR
   have a66:=hag.at 66 KR
   simp only[S5,↓reduceIte,Nat.reduceEqDiff,initF, *] at a4 a5 a6 a8 a10 a14 a66
   clear hag hR
   simp only[List.drop_succ_cons,List.drop_zero]
   cases kpb
   ·(repeat' first|(with_reducible first|exact⟨⟩|(refine gB ?_;intros)|refine gT ?_ ?_)|refine gs ?_|simp(maxDischargeDepth:=3) only[↓X,↓Y,↓Q,S1,↓reduceIte,Nat.reduceEqDiff,Nat.reduceAdd,Int.reduceLT,Int.reduceLE,Int.reduceNeg,Int.reduceBEq,Int.reduceBNe,Int.reduceEq,Nat.reduceLeDiff,Nat.reduceMul,Nat.reduceLT, *,brokeC]|simp(singlePass:=true) (maxDischargeDepth:=99) only[*,S2,Nat.reduceLT,brokeC])
    exact⟨[_,_,_,_,_],false,rfl,⟨rfl,by simp[Value.oneCell']⟩,by simp⟩
   ·(repeat' first|(with_reducible first|exact⟨⟩|(refine gB ?_;intros)|refine gT ?_ ?_)|refine gs ?_|refine sxKeepO240 ?_)
    refine call_k (hen.out _ FR FR) ?_
    rintro _ we ne se ⟨mv,rfl,hmv⟩
    have mv1:=hmv.one
    have KM:=(hmv.sl1 (f:=natV)).k (Nat.le_refl _)
    have hmm:=(hmv.sl1 (f:=natV)).max_
    have ee:Bl we.heap.size we we:=Bl.refl (Nat.le_refl _)
    have hen9:Hid (∀i (h:i<(enabledL p d).length),(enabledL p d)[i]<p.steps.length):=λi h=>List.mem_range.1 (List.mem_filter.1 (List.getElem_mem h)).1
    generalize enabledL p d=M at *
    clear hmv
    (repeat' first|(with_reducible first|exact⟨⟩|(refine gB ?_;intros)|refine gT ?_ ?_)|refine gs ?_|refine sx ?_)
    refine loop_k (M.length) (λg0 k g _=>g 25=.int .i64 k∧(g 4=g0 4∧g 5=g0 5∧g 6=g0 6∧g 8=g0 8∧g 10=g0 10∧g 14=g0 14∧g 23=g0 23∧g 66=g0 66)∧True) KR (hmm) ?_ ?_ ?_
    ·(repeat' first|(with_reducible first|exact⟨⟩|(refine gB ?_;intros)|refine gT ?_ ?_)|refine gs ?_|refine sxKeepO242 ?_)
    ·rintro k m g wk hk hlt _ _ _ hw ⟨hi,hf,hp⟩
     simp(maxDischargeDepth:=3) only[U,↓reduceIte,Nat.reduceEqDiff, *] at hf
     have hMk:=hen9.out k hlt
     have hMI:((M[k]:Nat):Int)<((p.steps.length:Nat):Int):=by omega
     have hBe:B≤w2.heap.size:=FR
     have hrd:=λw' (h0:Bl B w w') (h1:Bl w2.heap.size w2 w') (h3:w2.heap.size≤w'.heap.size)=>ref19Ready (st:=p.steps[M[k]]) (B:=w2.heap.size) h3 ((hS w' h0).up24 hBe) ((hW w' h0).up24 hBe) (hVX w' h1)
     (repeat' first|((with_reducible refine wpd_at 20 ?_);refine wpd_cmid (m:=11) KR KR KR rfl ?_)|(with_reducible first|exact⟨⟩|(refine gB ?_;intros)|refine gT ?_ ?_)|refine gs ?_|((with_reducible refine at_q 71 ?_);refine qret_k (λ_ _ _=>hrd _ FR FR FR) ?_)|((with_reducible refine at_f 71 ?_);refine ret_k (hrd _ FR FR FR) λ_ _ _=>?_)|refine sxKeepO243 ?_)
     ·refine next_k hk hlt ?_ FR
      (repeat' first|(with_reducible first|exact⟨⟩|(refine gB ?_;intros)|refine gT ?_ ?_)|refine gs ?_|refine sx ?_)
     ·exact⟨[_,_,_,_,_],false,rfl,⟨rfl,by simp[Value.oneCell']⟩,by simp⟩
    ·rintro g wk _ _ _ ⟨hi,hf,hp⟩
     simp(maxDischargeDepth:=3) only[U,↓reduceIte,Nat.reduceEqDiff, *] at hf
     (repeat' first|(with_reducible first|exact⟨⟩|(refine gB ?_;intros)|refine gT ?_ ?_)|refine gs ?_|refine sx ?_)
     exact⟨[_,_,_,_,_],true,rfl,⟨rfl,by simp[Value.oneCell']⟩,by simp⟩
end
end Go.Proofs.YtphciegaokdolaaGreatDoor
