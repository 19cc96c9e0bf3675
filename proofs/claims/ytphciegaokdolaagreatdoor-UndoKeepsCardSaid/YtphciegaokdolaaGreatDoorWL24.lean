/- Worlds in a row of one's own; the layer prefix: follow, clone. -/
import Derived.Test.YtphciegaokdolaaGreatDoorPureX24
import Derived.Test.YtphciegaokdolaaGreatDoorStep2
import Derived.Test.YtphciegaokdolaaGreatDoorRel3
import Derived.Test.YtphciegaokdolaaGreatDoorSet13
import Derived.Test.YtphciegaokdolaaGreatDoorLaw20
import Derived.Test.YtphciegaokdolaaGreatDoorCopy13
namespace Go.Proofs.YtphciegaokdolaaGreatDoor
set_option linter.unusedSimpArgs false
set_option linter.unusedVariables false
open Go Go.RowKit
set_option maxRecDepth 100000
set_option linter.unusedSectionVars false
set_option maxHeartbeats 2000000
theorem sxWL240{p q:Prop}(hq:q)(h:p=q:=by first|(simp(maxDischargeDepth:=3) only[↓X,↓Y,↓Q,S1,↓reduceIte,Nat.reduceEqDiff,Nat.reduceAdd,Int.reduceLT,Int.reduceLE,Int.reduceNeg,Int.reduceBEq,Int.reduceBNe,Int.reduceEq,Nat.reduceLeDiff,Nat.reduceMul,Nat.reduceLT, *,siteC];try exact rfl)|(simp(singlePass:=true) (maxDischargeDepth:=99) only[*,S2,Nat.reduceLT,siteC];try exact rfl)):p:=h▸hq
theorem sxWL242{p q:Prop}(hq:q)(h:p=q:=by first|(simp(maxDischargeDepth:=3) only[↓X,↓Y,↓Q,S1,↓reduceIte,Nat.reduceEqDiff,Nat.reduceAdd,Int.reduceLT,Int.reduceLE,Int.reduceNeg,Int.reduceBEq,Int.reduceBNe,Int.reduceEq,Nat.reduceLeDiff,Nat.reduceMul,Nat.reduceLT, *,siteC,stepV,stepC];try exact rfl)|(simp(singlePass:=true) (maxDischargeDepth:=99) only[*,S2,Nat.reduceLT,siteC,stepV,stepC];try exact rfl)):p:=h▸hq
theorem sxWL243{p q:Prop}(hq:q)(h:p=q:=by first|(simp(maxDischargeDepth:=3) only[↓X,↓Y,↓Q,S1,↓reduceIte,Nat.reduceEqDiff,Nat.reduceAdd,Int.reduceLT,Int.reduceLE,Int.reduceNeg,Int.reduceBEq,Int.reduceBNe,Int.reduceEq,Nat.reduceLeDiff,Nat.reduceMul,Nat.reduceLT, *,putAt,List.set_cons_zero,List.set_cons_succ,List.length_cons,List.length_nil,Nat.reduceLeDiff,idxOk,flatP,Nat.reduceMul,Nat.reduceLT];try exact rfl)|(simp(singlePass:=true) (maxDischargeDepth:=99) only[*,S2,Nat.reduceLT,putAt,List.set_cons_zero,List.set_cons_succ,List.length_cons,List.length_nil,Nat.reduceLeDiff,idxOk,flatP,Nat.reduceMul,Nat.reduceLT];try exact rfl)):p:=h▸hq
theorem ownW_fr24{B b T:Nat}{v:Value}{w w':World}{x:WorldD}{z:List Value}(h:OwnW B v w x)(hz:Blk w b T z)(hc:Chg w w' b)(h1:T≠82:=by decide)(h2:T≠98:=by decide):OwnW B v w' x:=by
 obtain⟨p,q,e,o1,o2⟩:=h
 exact⟨p,q,e,o1.fr hz hc (.inl h1),o2.fr hz hc (.inl h2)⟩
theorem SiteR.up24{w:World}{B B':Nat}{u:SiteVs}{s:SiteD}(h:SiteR w B u s)(hB:B≤B'):SiteR w B' u s:=⟨h.f.more hB,h.b.more hB,h.l.more hB,h.r.more hB,h.k.more hB,h.h.more hB⟩
theorem WishR.up24{w:World}{B B':Nat}{v:Value}{l:List SrvV}(h:WishR w B v l)(hB:B≤B'):WishR w B' v l:=⟨h.v.more hB,λu hu=>(h.a u hu).more hB,λu hu=>(h.n u hu).more hB⟩
theorem PlanR.up24{w:World}{B B':Nat}{sv av:Value}{vs:List Value}{p:PlanD}(h:PlanR w B sv av vs p)(hB:B≤B'):PlanR w B' sv av vs p:=⟨h.s.more hB,⟨h.a.v.more hB,h.a.len,λi hi=>let ⟨u,h1,h2⟩:=h.a.at_ i hi;⟨u,h1,h2.more hB⟩⟩⟩
def wC(u:Value×Value):List Value:=[u.1,u.2]
def OwnWL(w:World)(B:Nat)(v:Value)(ws:List WorldD):Prop:=∃us:List (Value×Value),us.length=ws.length∧Own w B 36 2 v (us.map wC)∧∀i (h:i<us.length),OwnH w B us[i].1 (ws.getD i noW).hosts∧OwnP w B us[i].2 (ws.getD i noW).replicas
section
variable{w w':World}{B B' b:Nat}{v:Value}{ws:List WorldD}
theorem OwnWL.nil(w:World)(B:Nat):OwnWL w B (.slice none 0 0) []:=⟨[],rfl,Own.nil _ _ _ _,λi h=>absurd h (by simp)⟩
theorem OwnWL.ext(h:OwnWL w B v ws)(hx:Ext w w'):OwnWL w' B v ws:=by
 obtain⟨us,h1,h2,h3⟩:=h
 exact⟨us,h1,h2.ext hx,λi hi=>⟨(h3 i hi).1.ext hx,(h3 i hi).2.ext hx⟩⟩
theorem OwnWL.more(h:OwnWL w B v ws)(hB:B'≤B):OwnWL w B' v ws:=by
 obtain⟨us,h1,h2,h3⟩:=h
 exact⟨us,h1,h2.more hB,λi hi=>⟨(h3 i hi).1.more hB,(h3 i hi).2.more hB⟩⟩
theorem OwnWL.lt(h:OwnWL w B v ws){c:Nat}(hc:v.ownBlock=some c):c<w.heap.size:=by
 obtain⟨us,h1,h2,h3⟩:=h
 exact(h2.lt c hc).2
theorem OwnWL.one(h:OwnWL w B v ws):v.oneCell'=true:=by
 obtain⟨us,h1,h2,h3⟩:=h
 exact h2.one
theorem OwnWL.fr{T:Nat}{z:List Value}(h:OwnWL w B v ws)(hz:Blk w b T z)(hc:Chg w w' b)(hb:b<B)(h1:T≠82:=by decide)(h2:T≠98:=by decide):OwnWL w' B v ws:=by
 obtain⟨us,h3,h4,h5⟩:=h
 refine⟨us,h3,h4.keep λc hc'=>hc.block c (h4.lt c hc').2 (λe=>by have:=(h4.lt c hc').1;omega),λi hi=>⟨(h5 i hi).1.fr hz hc (.inl h1),(h5 i hi).2.fr hz hc (.inl h2)⟩⟩
theorem appW{cp:Nat}{s h r:Value}{x:WorldD}{k:Value→World→Prop}(hown:OwnWL w B s ws)(hh:OwnH w B h x.hosts)(hr:OwnP w B r x.replicas)(hb:Blk w b 36 [h,r])(hbound:ws.length<1000000000000)(hB:B≤w.heap.size)
 (hk:∀v' w',Now w'→Sa B w w'→OwnWL w' B v' (ws++[x])→OwnH w' B h x.hosts→OwnP w' B r x.replicas→(∀c,c<w.heap.size→some c≠s.ownBlock→w'.heap[c]? = w.heap[c]?)→k v' w'):appX Tryz.prog 50 50 50 s (.slice (some ⟨b,0,none⟩) 1 cp) w k:=by
 obtain⟨us,h1,h2,h3⟩:=hown
 refine append_row (e:=36) (sz:=2) (by_:=48) (z:=.agg #[.slice none 0 0,.slice none 0 0]) (ns:=[[h,r]]) KR KR rfl (by decide) h2 (by simpa using hb) (by simp) (by simp[hh.one,hr.one]) rfl ?_ hB λv' w' ho hg hbl hd=>?_
 ·simp only[List.length_map,List.length_cons,List.length_nil,Nat.zero_add]
  have:(us.length+1) * (48+1)≤1000000000000 * 49:=Nat.mul_le_mul (by omega) (Nat.le_refl _)
  omega
 ·have keep:∀{e:Nat} {y:Value} {cs:List (List Value)},e≠36→Own w B e 2 y cs→Own w' B e 2 y cs:=λ{e y cs} hne hx=>hx.keep λc hc=>hg.block c (hx.lt c hc).2 λe=>by
   rcases h2.1.2 with ⟨rfl,_⟩|⟨g,cap,cur,rfl,hbg,hgc,_⟩
   ·simp[Value.ownBlock] at e
   ·have hcg:c=g:=by simpa [Value.ownBlock] using e
    subst hcg
    rcases hx.1.2 with ⟨rfl,_⟩|⟨g',cap',cur',rfl,_,hgc',_⟩
    ·simp[Value.ownBlock] at hc
    ·obtain rfl:g'=c:=Option.some.inj hc
     have:=hgc.symm.trans hgc'
     simp at this
     exact hne this.2.symm
  have kh:=keep (by decide) hh
  have kr:=keep (by decide) hr
  refine hk v' w' trivial (sa_of hbl) ⟨us++[(h,r)],by simp[h1],by simpa [wC] using ho,λi hi=>?_⟩ kh kr λc hc hne=>hg.block c hc hne
  by_cases hlt:i<us.length
  ·rw[List.getElem_append_left hlt]
   have hil:i<ws.length:=by omega
   have e:(ws++[x]).getD i noW=ws.getD i noW:=by simp[List.getD_eq_getElem?_getD,List.getElem?_append_left hil]
   rw[e]
   exact⟨keep (by decide) (h3 i hlt).1,keep (by decide) (h3 i hlt).2⟩
  ·have hie:i=us.length:=by simp at hi;omega
   subst hie
   rw[List.getElem_append_right (Nat.le_refl _)]
   have e:(ws++[x]).getD us.length noW=x:=by simp[List.getD_eq_getElem?_getD,h1]
   rw[e]
   simp only[Nat.sub_self,List.getElem_cons_zero]
   exact⟨kh,kr⟩
end
section
variable{w:World}{B Bo:Nat}{u:SiteVs}{sd:SiteD}{wv sv av hv rv ov:Value}{vs:List Value}{l:List SrvV}{p:PlanD}{y:WorldD}{L:List Nat}
theorem prefixFollow(hB:B≤w.heap.size)(hs:SiteR w B u sd)(hl:WishR w B wv l)(hpl:PlanR w B sv av vs p)(hx0:WorldR w B hv rv y)(hBo:Bo≤w.heap.size)(ho:Sl w Bo none 1 ov (L.map natV))(hL:∀i∈L,i<p.steps.length)(hLn:L.length≤4096) :
 CallsV Tryz.prog 54 #[.agg (siteC u sd).toArray,.agg #[wv],.agg #[hv,rv],.agg #[sv,av],ov] w λr w'=>Ext w w'∧∃lv,r=.tuple #[lv,intV (runL sd (l.map (·.x)) p.steps L y).2]∧OwnWL w' w.heap.size lv (runL sd (l.map (·.x)) p.steps L y).1:=by
 have⟨hn,hx⟩:=bg0 w
 have hs':=hs.sk hB
 have hl':=hl.sk hB
 have hp':=hpl.sk hB
 have hx':=hx0.sk hB
 have hS:=hs'.2.2.2.2.2.2
 have hW:=hl'.2.2
 have ho':=ho.k hBo
 have hbo:Bl Bo w w:=Bl.refl hBo
 have hbw:Bl B w w:=Bl.refl hB
 have hst:=hp'.1
 have hav1:=hp'.2.2.2.2.1
 have hh1:=hx0.h.one
 have hr1:=hx0.r.one
 have hL':Hid (∀i (h:i<L.length),L[i]<p.steps.length):=λi h=>hL _ (List.getElem_mem h)
 have hstA:Hid (∀i (h:i<p.steps.length),stA p.steps i=p.steps[i]):=λi h=>stA_at h
 have hApp:=λw' (h1:Bl B w w') (h3:B≤w'.heap.size) {h r:Value} {x:WorldD} (hx:WorldR w' w'.heap.size h r x) (st:StepD)=>stepApply (st:=st) (B:=w'.heap.size) (Nat.le_refl _) ((hS w' h1).up24 h3) ((hW w' h1).up24 h3) hx
 replace hApp:Hid _:=hApp
 have h0:Hid (WorldR w B hv rv y):=hx0
 have hX0:=hx'.2.2.2.2
 clear hL hpl hp' hx' hx0
 (refine callsV_of Tryz.func54 rfl KR KR ?_;rw[Tryz.results54])
 (repeat' first|(with_reducible first|exact⟨⟩|(refine gB ?_;intros)|refine gT ?_ ?_)|refine gs ?_|refine sxWL240 ?_)
 rename_i b5 w5 n5 k5 s5 q5 b6 w6 n6 k6 s6 q6 b7 w7 n7 k7 s7 q7 b8 w8 n8 k8 s8 q8
 have hk7:Blk w8 b7 36 [hv,rv]:=k7.2.1 _ FR
 have d87:¬b8=b7:=λe=>by
  have h1:=(k7.2.1 w7 k7.2.2.1).lt
  have h2:=q8.2.1 _ (Nat.le_refl _)
  omega
 have hX8:WorldR w8 w8.heap.size hv rv y:=by
  have h1:=hX0 w8 FR
  have h2:B≤w8.heap.size:=FR
  exact⟨h1.h.more h2,h1.r.more h2⟩
 have hbl8:b7<w8.heap.size:=hk7.lt
 have hw8:w.heap.size≤w8.heap.size:=FR
 generalize hwl:l.map (·.x)=wl at *
 clear k7 hX0 h0
 (repeat' first|(with_reducible first|exact⟨⟩|(refine gB ?_;intros)|refine gT ?_ ?_)|refine gs ?_|refine sx ?_)
 refine loop_b b7 L.length (λg0 k g w'=>g 19=.int .i64 (k:Int)∧(g 5=g0 5∧g 6=g0 6∧g 7=g0 7∧g 8=g0 8∧g 17=g0 17∧g 18=g0 18)∧∃lv,g 12=lv∧∃h r x ws,Blk w' b7 36 [h,r]∧WorldR w' w'.heap.size h r x∧OwnWL w' w8.heap.size lv ws∧Hid (RunAt sd wl p.steps L y k ws x)) KR (by omega) FR ?_ ?_ ?_
 ·(repeat' first|(with_reducible first|exact⟨⟩|(refine gB ?_;intros)|refine gT ?_ ?_)|refine gs ?_|refine sx ?_)
  exact⟨_,rfl,hv,rv,y,[],hk7,hX8,OwnWL.nil _ _,RunAt.start⟩
 ·clear hX8 hk7
  rintro k m g wk hk hlt nk sk ck hbl hw ⟨hi,hf,lv,hlv,h,r,x,ws,hbk,hX,hown,hp⟩
  simp(maxDischargeDepth:=3) only[U,↓reduceIte,Nat.reduceEqDiff, *] at hf
  have kb7:=hbk.bk
  have hLk:=hL'.out k hlt
  have hstk:=hstA.out _ hLk
  have hwk:w.heap.size≤wk.heap.size:=FR
  have hx9':=hX.sk (Nat.le_refl _)
  have hXk:=hx9'.2.2.2.2
  have h7h:=hX.h.one
  have h7r:=hX.r.one
  have h7lv:=hown.one
  have bwk:Bl wk.heap.size wk wk:=Bl.refl (Nat.le_refl _)
  have hBk:B≤wk.heap.size:=Nat.le_trans hB hwk
  have hAp:=λw' (h1:Bl B w w') (h2:Bl wk.heap.size wk w') (h3:wk.heap.size≤w'.heap.size)=>stepApply (st:=p.steps[L[k]]) (B:=wk.heap.size) h3 ((hS w' h1).up24 hBk) ((hW w' h1).up24 hBk) (hXk w' h2)
  have hwsl:ws.length<1000000000000:=by rw[hp.out.l];omega
  have hLi:((L[k]:Nat):Int)<((p.steps.length:Nat):Int):=by omega
  have hrun0:=λe=>hp.out.more hlt e
  have hrun1:=λe=>hp.out.stop hlt e
  rw[hstk,←hwl] at hrun0 hrun1
  generalize applyE sd (l.map (·.x)) x p.steps[L[k]]=E at *
  generalize applyW sd (l.map (·.x)) x p.steps[L[k]]=W' at *
  rw[hwl] at hrun0 hrun1
  replace hrun0:Hid _:=hrun0
  replace hrun1:Hid _:=hrun1
  clear hp hx9' hXk hX
  (repeat' first|((with_reducible refine wpd_at 5 ?_);refine wpd_hold ?_)|(with_reducible first|exact⟨⟩|(refine gB ?_;intros)|refine gT ?_ ?_)|refine gs ?_|refine sxWL242 ?_)
  unfold wpdH
  refine wpd_relS 14 [(13,12)] (λiI s v w9=>match iI with
   |0=>v=.agg (siteC u sd).toArray
   |1=>v=.agg #[wv]
   |2=>v=.agg #[h,r]
   |3=>v=.pointer (some ⟨b8,0,none⟩)
   |4=>v=sv
   |5=>v=.int .i64 (L[k]:Nat)
   |6=>v=elemAt sv 4 L[k]
   |7=>v=stepV p.steps[L[k]]
   |8=>∃u,v=.tuple #[u,intV E]∧OwnW wk.heap.size u w9 W'
   |9=>∃u,v=.tuple #[u,intV E]∧OwnW wk.heap.size u w9 W'
   |10=>OwnW wk.heap.size v w9 W'
   |11=>v=intV E
   |12=>∃b,v=.pointer (some ⟨b,0,none⟩)∧wk.heap.size≤b∧(s=false→Blk w9 b 36 [.slice none 0 0,.slice none 0 0])∧(s=true→∃h r,Blk w9 b 36 [h,r]∧OwnH w9 wk.heap.size h W'.hosts∧OwnP w9 wk.heap.size r W'.replicas)
   |13=>True
   |_=>False) KR KR KR KR ?_ ?_ ?_
  ·intro iI s v w1 w2 hR hx9
   match iI,hR with
   |0,h|1,h|2,h|3,h|4,h|5,h|6,h|7,h=>exact h
   |8,h=>exact(let ⟨u,e,o⟩:=h;⟨u,e,o.ext hx9⟩)
   |9,h=>exact(let ⟨u,e,o⟩:=h;⟨u,e,o.ext hx9⟩)
   |10,h=>exact OwnW.ext h hx9
   |11,h=>exact h
   |12,⟨b,e,h1,h2,h3⟩=>exact⟨b,e,h1,λhs=>(h2 hs).ext hx9,λhs=>(λh=>(let ⟨a,b,k,o1,o2⟩:=h;⟨a,b,k.ext hx9,o1.ext hx9,o2.ext hx9⟩)) (h3 hs)⟩
   |13,h=>exact h
  ·intro iI oO hi ho gF w9 S9 hx9 hdep hag
   have⟨s9,n9,r9,z9⟩:=bg9 hx9
   rcases iI with _|_|_|_|_|_|_|_|_|_|_|_|_|_|iI
   cases ho
   have a5:=hag.at 5 KR
   simp only[S5,↓reduceIte,Nat.reduceEqDiff,initF, *] at a5
   clear hag hdep
   refine rO ?_
   rotate_left
   cases ho
   have a6:=hag.at 6 KR
   simp only[S5,↓reduceIte,Nat.reduceEqDiff,initF, *] at a6
   clear hag hdep
   refine rO ?_
   rotate_left
   cases ho
   have a7:=hag.at 7 KR
   simp only[S5,↓reduceIte,Nat.reduceEqDiff,initF, *] at a7
   clear hag hdep
   refine rO ?_
   rotate_left
   cases ho
   have a8:=hag.at 8 KR
   simp only[S5,↓reduceIte,Nat.reduceEqDiff,initF, *] at a8
   clear hag hdep
   refine rO ?_
   rotate_left
   cases ho
   have d3:(gF 27)=.pointer (some ⟨b8,0,none⟩):=hdep ⟨3,.data⟩ (by simp) rfl _ _ rfl rfl
   clear hag hdep
   refine rO ?_
   rotate_left
   cases ho
   have a14:=hag.at 14 KR
   simp only[S5,↓reduceIte,Nat.reduceEqDiff,initF, *] at a14
   clear hag hdep
   refine rO ?_
   rotate_left
   cases ho
   have d4:(gF 28)=sv:=hdep ⟨4,.data⟩ (by simp) rfl _ _ rfl rfl
   have d5:(gF 29)=.int .i64 (L[k]:Nat):=hdep ⟨5,.data⟩ (by simp) rfl _ _ rfl rfl
   clear hag hdep
   refine rO ?_
   rotate_left
   cases ho
   have d6:(gF 30)=elemAt sv 4 L[k]:=hdep ⟨6,.data⟩ (by simp) rfl _ _ rfl rfl
   clear hag hdep
   refine rO ?_
   rotate_left
   cases ho
   have d0:(gF 24)=.agg (siteC u sd).toArray:=hdep ⟨0,.data⟩ (by simp) rfl _ _ rfl rfl
   have d1:(gF 25)=.agg #[wv]:=hdep ⟨1,.data⟩ (by simp) rfl _ _ rfl rfl
   have d2:(gF 26)=.agg #[h,r]:=hdep ⟨2,.data⟩ (by simp) rfl _ _ rfl rfl
   have d7:(gF 31)=stepV p.steps[L[k]]:=hdep ⟨7,.data⟩ (by simp) rfl _ _ rfl rfl
   clear hag hdep
   refine rO ?_
   rotate_left
   cases ho
   obtain⟨u7,e7,o7⟩:=hdep ⟨8,.data⟩ (by simp) rfl _ _ rfl rfl
   clear hag hdep
   refine rO ?_
   rotate_left
   cases ho
   obtain⟨u8,e8,o8⟩:=hdep ⟨9,.data⟩ (by simp) rfl _ _ rfl rfl
   clear hag hdep
   refine rO ?_
   rotate_left
   cases ho
   obtain⟨u8,e8,o8⟩:=hdep ⟨9,.data⟩ (by simp) rfl _ _ rfl rfl
   clear hag hdep
   refine rO ?_
   rotate_left
   cases ho
   clear hag hdep
   refine rO ?_
   rotate_left
   cases ho
   obtain⟨b12,e12,q12,hz12,_⟩:=hdep ⟨12,.data⟩ (by simp) rfl _ _ rfl rfl
   have d10:OwnW wk.heap.size (gF 33) w9 W':=hdep ⟨10,.data⟩ (by simp) rfl _ _ rfl rfl
   obtain⟨h9,r9',e9,oh9,or9⟩:=d10
   have H9:=oh9.one
   have R9:=or9.one
   clear hag hdep
   refine⟨λh=>by simp[alL] at h,λa9 pa da hal hS9 hpa hda=>?_⟩
   obtain rfl:12=a9:=by simpa [alL] using hal
   obtain rfl:=Option.some.inj hpa
   obtain rfl:=Option.some.inj hda
   have hz:=hz12 hS9
   clear hal hpa hda hz12
   refine relStep_off rfl ?_
   rotate_left
   ·omega
   all_goals (repeat' first|(with_reducible first|exact⟨⟩|(refine gB ?_;intros)|refine gT ?_ ?_)|refine gs ?_|refine sxWL242 ?_)
   all_goals first
    |(refine CallsV.mono (hAp _ FR FR FR) λv w10 hh=>⟨hh.1,?_⟩;obtain⟨_,u0,rfl,ho⟩:=hh;exact⟨u0,rfl,ho.more z9⟩)
    |(exact⟨u7,rfl,o7⟩)
    |(exact o8)
    |(rename_i b10 w10 n10 k10 s10 q10;exact⟨_,rfl,FR,λ_=>k10.2.1 _ k10.2.2.1,λh=>absurd h (by decide)⟩)
    |(
     refine stT_agg (w0:=w9) (vs:=[h9,r9']) hz rfl KR rfl (by simp[H9,R9]) λw10 hb10 hc=>⟨b12,hc,q12,⟨b12,(by first|exact e12|rfl),q12,λh=>absurd h (by decide),λ_=>⟨h9,r9',hb10,oh9.fr hz hc (.inl (by decide)),or9.fr hz hc (.inl (by decide))⟩⟩,?_⟩
     intro iI s v hne hR
     match iI,hR with
     |0,h|1,h|2,h|3,h|4,h|5,h|6,h|7,h|11,h|13,h=>exact h
     |8,h=>exact(let ⟨u,e,o⟩:=h;⟨u,e,ownW_fr24 o hz hc⟩)
     |9,h=>exact(let ⟨u,e,o⟩:=h;⟨u,e,ownW_fr24 o hz hc⟩)
     |10,h=>exact ownW_fr24 h hz hc
     |12,_=>exact absurd rfl hne)
  ·intro g9 w9 hx9 hR hag
   have⟨s9,n9,r9,z9⟩:=bg9 hx9
   have d11:(g9 34)=intV E:=hR 11 _ _ (by decide) rfl rfl
   have d12:∃b,(g9 15)=.pointer (some ⟨b,0,none⟩)∧wk.heap.size≤b∧(true=false→Blk w9 b 36 [.slice none 0 0,.slice none 0 0])∧(true=true→∃h r,Blk w9 b 36 [h,r]∧OwnH w9 wk.heap.size h W'.hosts∧OwnP w9 wk.heap.size r W'.replicas):=hR 12 _ _ (by decide) rfl rfl
   obtain⟨b12,e12,q12,_,f12⟩:=d12
   replace f12:=f12 rfl
   have nw12:=Nw.of q12
   obtain⟨hA,rA,kwA,ohA,orA⟩:=f12
   have KWA:=kwA.bk
   have HAone:=ohA.one
   have RAone:=orA.one
   have a5:=hag.at 5 KR
   have a6:=hag.at 6 KR
   have a7:=hag.at 7 KR
   have a8:=hag.at 8 KR
   have a12:=hag.at 12 KR
   have a14:=hag.at 14 KR
   have a17:=hag.at 17 KR
   have a18:=hag.at 18 KR
   have a19:=hag.at 19 KR
   simp only[S5,↓reduceIte,Nat.reduceEqDiff,initF, *] at a5 a6 a7 a8 a12 a14 a17 a18 a19
   clear hag hR
   simp only[List.drop_succ_cons,List.drop_zero]
   have hw89:w8.heap.size≤wk.heap.size:=FR
   have hlvlt:Hid (∀c,lv.ownBlock=some c→c<wk.heap.size):=λc hc=>hown.lt hc
   by_cases hE0:E=0
   ·subst hE0
    have hrn:=hrun0.out rfl
    replace hrn:Hid _:=hrn
    have hownx:=λw' (h:Ext wk w')=>hown.ext h
    have hohx:=λw' (h:Ext w9 w')=>ohA.ext h
    have horx:=λw' (h:Ext w9 w')=>orA.ext h
    replace hownx:Hid _:=hownx
    replace hohx:Hid _:=hohx
    replace horx:Hid _:=horx
    have r9:=Ext.refl w9
    clear hApp hAp hown ohA orA hrun1 hrun0
    (repeat' first|(with_reducible first|exact⟨⟩|(refine gB ?_;intros)|refine gT ?_ ?_)|refine gs ?_|refine sx ?_)
    rename_i b10 w10 n10 k10 s10 q10
    refine appW (hownx.out _ FR) ((hohx.out _ FR).more hw89) ((horx.out _ FR).more hw89) (k10.2.1 _ FR) hwsl FR λv' w11 n11 s11 hO hOh hOr hkeep=>?_
    have kwB:Blk w11 b12 36 [hA,rA]:=by
     have h1:Blk w10 b12 36 [hA,rA]:=KWA.2.1 _ FR
     refine(hkeep b12 h1.lt λe=>?_).trans h1
     have:=hlvlt.out _ e.symm
     omega
    have KWB:=kwB.bk
    have hO':Hid _:=hO
    have hOh':Hid _:=hOh
    have hOr':Hid _:=hOr
    have hk7':Blk w11 b7 36 [h,r]:=kb7.2.1 _ FR
    have c11:Cg b7 w11 w11:=Chg.refl' w11 b7
    clear hO hOh hOr hkeep
    (repeat' first|(with_reducible first|exact⟨⟩|(refine gB ?_;intros)|refine gT ?_ ?_)|refine gs ?_|refine sx ?_)
    rename_i wz nz kz sz
    have cz:Cg b7 w11 wz:=FR
    have F:Hid (OwnWL wz w8.heap.size v' (ws++[W'])∧WorldR wz wz.heap.size hA rA W'∧Blk wz b7 36 [hA,rA]):=⟨OwnWL.fr hO'.out hk7' cz hbl8,⟨(hOh'.out.fr hk7' cz (.inl (by decide))).slN (f:=stateC),(hOr'.out.fr hk7' cz (.inl (by decide))).slN (f:=replC)⟩,kz.2.1 _ kz.2.2.1⟩
    refine next_b hk hlt ?_ FR
    (repeat' first|(with_reducible first|exact⟨⟩|(refine gB ?_;intros)|refine gT ?_ ?_)|refine gs ?_|refine sx ?_)
    exact⟨_,rfl,hA,rA,W',_,F.out.2.2,F.out.2.1,F.out.1,hrn.out⟩
   ·have hE1:(E == 0)=false:=by simpa using hE0
    have hE2:(E != 0)=true:=by simpa using hE0
    have hst9:=hrun1.out hE0
    have hownx:=λw' (h:Ext wk w')=>hown.ext h
    replace hownx:Hid _:=hownx
    rw[hst9]
    clear hApp hAp hown ohA orA hrun1 hrun0 hst9
    (repeat' first|(with_reducible first|exact⟨⟩|(refine gB ?_;intros)|refine gT ?_ ?_)|refine gs ?_|refine sx ?_)
    exact⟨_,rfl,(hownx.out _ FR).more hw8⟩
 ·rintro g wk nk sk ck hbl ⟨hi,hf,lv,hlv,h,r,x,ws,hbk,hX,hown,hp⟩
  simp(maxDischargeDepth:=3) only[U,↓reduceIte,Nat.reduceEqDiff, *] at hf
  have hd:=hp.out.done
  rw[hd]
  have hownx:=λw' (h:Ext wk w')=>hown.ext h
  replace hownx:Hid _:=hownx
  have rk:=Ext.refl wk
  have h7lv:=hown.one
  clear hApp hown hp hX hd
  (repeat' first|(with_reducible first|exact⟨⟩|(refine gB ?_;intros)|refine gT ?_ ?_)|refine gs ?_|refine sx ?_)
  exact⟨_,rfl,(hownx.out _ FR).more hw8⟩
end
section
variable{w:World}{B:Nat}{v hv rv:Value}{x:WorldD}
theorem slicesCloneH24{l:List StateD}(hB:B≤w.heap.size)(hv:Sl w B (some 2) 2 v (l.map stateV))(hlen:l.length≤1000000):CallsV Tryz.prog 41 #[v] w λv w'=>Ext w w'∧OwnH w' w.heap.size v l:=by
 have⟨hn,hx⟩:=bg0 w
 have hv':=hv.k hB
 (refine callsV_of Tryz.func41 rfl KR KR ?_;rw[Tryz.results41])
 (repeat' first|(with_reducible first|exact⟨⟩|(refine gB ?_;intros)|refine gT ?_ ?_)|refine gs ?_|refine sx ?_)
 ·rw[nil_of hv (by assumption)]
  exact Own.nil _ _ _ _
 ·rename_i w1 n1 k1 s1 nw1 sl1
  refine appendAll_k (e:=82) (sz:=2) (by_:=16) (z:=.agg #[.int .u8 0,.int .i64 0]) (B:=w.heap.size) (l:=([]:List StateD)) (r:=l) (c:=stateC) KR KR rfl (by decide) (by decide) (Own.ofBlkN (by simp) (k1.2.1 _ FR) (by simp) FR (by simp)) (hv'.2.2.2.2.2.2.1 _ FR) (λ_=>rfl) stateC_one (by simp;omega) FR λv2 w2 n2 s2 hown=>?_
  have o2:=hown.o
  (repeat' first|(with_reducible first|exact⟨⟩|(refine gB ?_;intros)|refine gT ?_ ?_)|refine gs ?_|refine sx ?_)
  exact o2.1 _ FR
theorem prefixClone(hB:B≤w.heap.size)(hx0:WorldR w B hv rv x)(h1:x.hosts.length≤1000000)(h2:x.replicas.length≤1000000):CallsV Tryz.prog 55 #[.agg #[hv,rv]] w λv w'=>Ext w w'∧OwnW w.heap.size v w' x:=by
 have⟨hn,hx⟩:=bg0 w
 have hx':=hx0.sk hB
 have hX:=hx'.2.2.2.2
 have hbw:Bl B w w:=Bl.refl hB
 have hh1:=hx0.h.one
 have hr1:=hx0.r.one
 (refine callsV_of Tryz.func55 rfl KR KR ?_;rw[Tryz.results55])
 (repeat' first|((with_reducible refine wpd_at 1 ?_);refine wpd_hold ?_)|(with_reducible first|exact⟨⟩|(refine gB ?_;intros)|refine gT ?_ ?_)|refine gs ?_|refine sx ?_)
 rename_i b1 wa n1 k1 s1 q1 b2 wk n2 k2 s2 q2
 have hwk:w.heap.size≤wk.heap.size:=FR
 unfold wpdH
 refine wpd_rel 7 (λiI v w9=>match iI with
  |0=>v=.pointer (some ⟨b1,0,none⟩)
  |1=>v=hv
  |2=>∃u,v=u∧OwnH w9 wk.heap.size u x.hosts
  |3=>v=.pointer (some ⟨b1,1,none⟩)
  |4=>v=rv
  |5=>∃u,v=u∧OwnP w9 wk.heap.size u x.replicas
  |6=>∃a b,v=.agg #[a,b]∧OwnH w9 wk.heap.size a x.hosts∧OwnP w9 wk.heap.size b x.replicas
  |_=>False) KR KR KR ?_ ?_ ?_
 ·intro iI v w1 w2 hR hx9
  match iI,hR with
  |0,h|1,h=>exact h
  |2,h=>exact(let ⟨u,e,o⟩:=h;⟨u,e,o.ext hx9⟩)
  |3,h|4,h=>exact h
  |5,h=>exact(let ⟨u,e,o⟩:=h;⟨u,e,o.ext hx9⟩)
  |6,h=>exact(let ⟨a,b,e,o1,o2⟩:=h;⟨a,b,e,o1.ext hx9,o2.ext hx9⟩)
 ·intro iI oO hi ho gF w9 hx9 hdep hag
  have⟨s9,n9,r9,z9⟩:=bg9 hx9
  rcases iI with _|_|_|_|_|_|_|iI
  cases ho
  have a1:=hag.at 1 KR
  simp only[S5,↓reduceIte,Nat.reduceEqDiff,initF, *] at a1
  clear hag hdep
  refine relStep_off rfl ?_
  rotate_left
  cases ho
  have d0:(gF 3)=.pointer (some ⟨b1,0,none⟩):=hdep ⟨0,.data⟩ (by simp) rfl _ _ rfl rfl
  clear hag hdep
  refine relStep_off rfl ?_
  rotate_left
  ·cases ho
   have d1:(gF 4)=hv:=hdep ⟨1,.data⟩ (by simp) rfl _ _ rfl rfl
   clear hag hdep
   refine relStep_off rfl ?_
   (repeat' first|(with_reducible first|exact⟨⟩|(refine gB ?_;intros)|refine gT ?_ ?_)|refine gs ?_|refine sxWL243 ?_)
   refine CallsV.mono (slicesCloneH24 (B:=B) FR (WorldR.h (hX _ FR)) h1) λv w10 hh=>⟨hh.1,_,rfl,hh.2.more z9⟩
  cases ho
  have a1:=hag.at 1 KR
  simp only[S5,↓reduceIte,Nat.reduceEqDiff,initF, *] at a1
  clear hag hdep
  refine relStep_off rfl ?_
  rotate_left
  cases ho
  have d3:(gF 6)=.pointer (some ⟨b1,1,none⟩):=hdep ⟨3,.data⟩ (by simp) rfl _ _ rfl rfl
  clear hag hdep
  refine relStep_off rfl ?_
  rotate_left
  ·cases ho
   have d4:(gF 7)=rv:=hdep ⟨4,.data⟩ (by simp) rfl _ _ rfl rfl
   clear hag hdep
   refine relStep_off rfl ?_
   (repeat' first|(with_reducible first|exact⟨⟩|(refine gB ?_;intros)|refine gT ?_ ?_)|refine gs ?_|refine sxWL243 ?_)
   refine CallsV.mono (slicesCloneP (B:=B) FR (WorldR.r (hX _ FR)) h2) λv w10 hh=>⟨hh.1,_,rfl,hh.2.more z9⟩
  ·cases ho
   obtain⟨u2,e2,o2⟩:=hdep ⟨2,.data⟩ (by simp) rfl _ _ rfl rfl
   have H2:=cellsL_one o2.one
   obtain⟨u5,e5,o5⟩:=hdep ⟨5,.data⟩ (by simp) rfl _ _ rfl rfl
   have H5:=cellsL_one o5.one
   clear hag hdep
   refine relStep_off rfl ?_
   (repeat' first|(with_reducible first|exact⟨⟩|(refine gB ?_;intros)|refine gT ?_ ?_)|refine gs ?_|refine sxWL243 ?_)
   exact⟨_,_,rfl,o2,o5⟩
  ·omega
  all_goals (repeat' first|(with_reducible first|exact⟨⟩|(refine gB ?_;intros)|refine gT ?_ ?_)|refine gs ?_|refine sxWL243 ?_)
 ·intro g9 w9 hx9 hR hag
  have⟨s9,n9,r9,z9⟩:=bg9 hx9
  have d6:∃a b,(g9 9)=.agg #[a,b]∧OwnH w9 wk.heap.size a x.hosts∧OwnP w9 wk.heap.size b x.replicas:=hR 6 _ _ (by decide) rfl rfl
  obtain⟨a6,b6,e6,oa,ob⟩:=d6
  have HA:=oa.one
  have HB:=ob.one
  have a2:=hag.at 2 KR
  have a36:=hag.at 36 KR
  simp only[S5,↓reduceIte,Nat.reduceEqDiff,initF, *] at a2 a36
  clear hag hR
  simp only[List.drop_succ_cons,List.drop_zero]
  have OA:=oa.o
  have OB:=ob.o
  clear oa ob
  (repeat' first|(with_reducible first|exact⟨⟩|(refine gB ?_;intros)|refine gT ?_ ?_)|refine gs ?_|refine sx ?_)
  exact⟨_,_,rfl,Own.more (OA.1 _ FR) hwk,Own.more (OB.1 _ FR) hwk⟩
end
section
variable{w:World}{B:Nat}{u:SiteVs}{sd:SiteD}{wv sv av hv rv:Value}{vs:List Value}{l:List SrvV}{p:PlanD}{y:WorldD}
theorem valid_len24{s:SiteD}{wl:List ServiceD}{x:WorldD}(h1:validB s wl x=true):x.hosts.length≤1000000∧x.replicas.length≤1000000:=by
 have b:=valid_parts h1
 have d:s.hosts.length≤16:=by
  have:=b.1
  simp only[siteB,sizesB,btw,Bool.and_eq_true,decide_eq_true_eq] at this
  omega
 omega
theorem seq_facts{e x:Int}{sd:SiteD}{wl:List ServiceD}{p:PlanD}(he:planErr sd wl p=e)(h0:askedE e p x=0):e=0∧Shape p∧Chk p 0 (seqF p x.toNat 4096 0)∧(seqF p x.toNat 4096 0).length≤12∧(∀i∈seqF p x.toNat 4096 0,i<p.steps.length)∧(seqF p x.toNat 4096 0).Nodup:=by
 unfold askedE at h0
 split at h0
 ·rename_i e0
  split at h0
  ·rename_i hi
   simp only[idealI,Bool.and_eq_true,decide_eq_true_eq] at hi
   obtain⟨ho,ha⟩:=planErr_ok (he.trans e0)
   have hz:idealB p 0=true:=by
    simp only[idealB,Bool.and_eq_true,decide_eq_true_eq]
    exact⟨Nat.pow_pos (by decide),λi _ h=>by rw[Nat.zero_testBit] at h;cases h⟩
   have hc:=chk_seq ho ha hi.2 4096 0 hz (λj hj=>by rw[Nat.zero_testBit] at hj;cases hj)
   obtain⟨h1,h2⟩:=chk_mem hc
   have h3:(seqF p x.toNat 4096 0).length≤(List.range p.steps.length).length:=List.Nodup.length_le_of_subset h1 λz hz=>List.mem_range.2 (h2 z hz).1
   rw[List.length_range] at h3
   exact⟨e0,ho,hc,Nat.le_trans h3 ho.small,λi hi=>(h2 i hi).1,h1⟩
  ·cases h0
 ·exact absurd h0 (by assumption)
theorem prefixWorld{x e:Int}(hT:TabW w)(hB:B≤w.heap.size)(hs:SiteR w B u sd)(hl:WishR w B wv l)(hpl:PlanR w B sv av vs p)(hx0:WorldR w B hv rv y)(he:planErr sd (l.map (·.x)) p=e) :
 CallsV Tryz.prog 30 #[.agg (siteC u sd).toArray,.agg #[wv],.agg #[hv,rv],.agg #[sv,av],intV x] w λr w'=>Ext w w'∧∃v0,r=.tuple #[v0,intV (wldE e sd (l.map (·.x)) p y x)]∧OwnW w.heap.size v0 w' (wldW e sd (l.map (·.x)) p y x):=by
 have⟨hn,hx⟩:=bg0 w
 have hs':=hs.sk hB
 have hl':=hl.sk hB
 have hp':=hpl.sk hB
 have hx':=hx0.sk hB
 have hS:=hs'.2.2.2.2.2.2
 have hW:=hl'.2.2
 have hP:=hp'.2.2.2.2.2.2
 have hX:=hx'.2.2.2.2
 have hbw:Bl B w w:=Bl.refl hB
 have hsv1:=hpl.s.one
 have hav1:=hp'.2.2.2.2.1
 have hh1:=hx0.h.one
 have hr1:=hx0.r.one
 have hT':=λw' (h:Ext w w')=>hT.ext h
 replace hT':Hid _:=hT'
 have hsf:=λh0=>seq_facts (x:=x) he h0
 replace hsf:Hid _:=hsf
 have he':Hid (planErr sd (l.map (·.x)) p=e):=he
 unfold wldW wldE
 clear he hpl hx0 hp' hx' hs' hl'
 (refine callsV_of Tryz.func30 rfl KR KR ?_;rw[Tryz.results30])
 (repeat' first|(with_reducible first|exact⟨⟩|(refine gB ?_;intros)|refine gT ?_ ?_)|refine gs ?_|refine sxWL240 ?_)
 refine call_k (planSequence (x:=x) (B:=B) (hT'.out _ FR) FR (hS _ FR) (hW _ FR) (hP _ FR) he'.out) ?_
 rintro _ w1 n1 s1 ⟨ov,rfl,hov⟩
 have ovone:=hov.one
 by_cases h0:askedE e p x=0
 rotate_left
 ·simp only[if_neg h0]
  clear hov hsf
  generalize askedE e p x=E at *
  have hE1:(E == 0)=false:=by simpa using h0
  have hE2:(E != 0)=true:=by simpa using h0
  (repeat' first|(with_reducible first|exact⟨⟩|(refine gB ?_;intros)|refine gT ?_ ?_)|refine gs ?_|refine sx ?_)
  exact⟨_,rfl,OwnW.none _ _⟩
 obtain⟨rfl,hsh,hchk,hlen,hLlt,hnd⟩:=hsf.out h0
 simp only[h0,if_true] at hov ⊢
 have hovs:=(hov.sl1 (f:=natV))
 clear hov hsf hsh hchk hnd
 generalize seqF p x.toNat 4096 0=L at *
 cases hv0:validB sd (l.map (·.x)) y
 ·simp only[Bool.false_eq_true,if_false]
  (repeat' first|(with_reducible first|exact⟨⟩|(refine gB ?_;intros)|refine gT ?_ ?_)|refine gs ?_|((with_reducible refine at_f 53 ?_);refine ret_k (worldValid (B:=B) FR (hS _ FR) (hW _ FR) (hX _ FR)) λ_ _ _=>?_)|refine sx ?_)
  exact⟨_,rfl,OwnW.none _ _⟩
 simp only[if_true]
 have hvp:=valid_parts hv0
 obtain⟨hlh,hlr⟩:=valid_len24 hv0
 have hob:=λw' (h:Bl w1.heap.size w1 w')=>hovs.bl h
 replace hob:Hid _:=hob
 have b1:Bl w1.heap.size w1 w1:=Bl.refl (Nat.le_refl _)
 have hrb:=runL_bad (s:=sd) (wl:=l.map (·.x)) (steps:=p.steps) L y
 replace hvp:Hid _:=hvp
 (repeat' first|(with_reducible first|exact⟨⟩|(refine gB ?_;intros)|refine gT ?_ ?_)|refine gs ?_|((with_reducible refine at_f 53 ?_);refine ret_k (worldValid (B:=B) FR (hS _ FR) (hW _ FR) (hX _ FR)) λ_ _ _=>?_)|refine sx ?_)
 refine call_k (prefixFollow (B:=B) (Bo:=w1.heap.size) FR (hS _ FR) (hW _ FR) (hP _ FR) (hX _ FR) FR (hob.out _ FR) hLlt (by omega)) ?_
 rintro _ w2 n2 s2 ⟨lv,rfl,hlv⟩
 have lvone:=hlv.one
 have hrl:=runL_len (s:=sd) (wl:=l.map (·.x)) (steps:=p.steps) L y
 generalize runL sd (l.map (·.x)) p.steps L y=q at *
 obtain⟨ws,bad⟩:=q
 simp only at hrb hlv hrl ⊢
 rcases hrb with rfl|hbad
 rotate_left
 ·have hb1:¬bad=-1:=by omega
  simp only[if_neg hb1]
  clear hlv
  (repeat' first|(with_reducible first|exact⟨⟩|(refine gB ?_;intros)|refine gT ?_ ?_)|refine gs ?_|refine sx ?_)
  exact⟨_,rfl,OwnW.none _ _⟩
 simp only[if_true]
 obtain⟨us,hu1,hu2,hu3⟩:=hlv
 have K:=(hu2.slN (f:=wC)).k (Nat.le_refl _)
 have b2:Bl w2.heap.size w2 w2:=Bl.refl (Nat.le_refl _)
 rcases Nat.eq_zero_or_pos us.length with hus|hus
 ·have hws:ws=[]:=List.eq_nil_of_length_eq_zero (by omega)
  have hus':us=[]:=List.eq_nil_of_length_eq_zero hus
  subst hws
  subst hus'
  clear hu2 hu3
  (repeat' first|(with_reducible first|exact⟨⟩|(refine gB ?_;intros)|refine gT ?_ ?_)|refine gs ?_|refine sx ?_)
  refine call_k (prefixClone (B:=B) FR (hX _ FR) hlh hlr) ?_
  rintro _ w3 n3 s3 ⟨h3,r3,rfl,hh3,hr3⟩
  have H3:=hh3.o
  have R3:=hr3.o
  clear hh3 hr3
  (repeat' first|(with_reducible first|exact⟨⟩|(refine gB ?_;intros)|refine gT ?_ ?_)|refine gs ?_|refine sx ?_)
  exact⟨_,rfl,_,_,rfl,Own.more (H3.1 _ FR) FR,Own.more (R3.1 _ FR) FR⟩
 ·obtain⟨n,hn1⟩:∃n,us.length=n+1:=⟨us.length - 1,by omega⟩
  have hnl:n<us.length:=by omega
  obtain⟨o1,o2⟩:=hu3 n hnl
  have elw:lastW ws y=ws.getD n noW:=by
   rw[lastW_get (by omega),List.getD_eq_getElem?_getD,List.getElem?_eq_getElem (by omega)]
   simp only[show ws.length - 1=n by omega];rfl
  rw[elw]
  have H1:=o1.one
  have R1:=o2.one
  have O1:=o1.o
  have O2:=o2.o
  have hw1:IntKind.i64.wrap (((n+1:Nat):Int) - 1)=(n:Int):=by rw[wrap_i64_id]<;>omega
  have hne0:(((n+1:Nat):Int) == 0)=false:=by rw[beq_eq_false_iff_ne];omega
  have hnI:((n:Nat):Int)<((n+1:Nat):Int):=by omega
  have hnn:n<n+1:=Nat.lt_succ_self n
  clear hu1 hu2 hu3 o1 o2 elw hrl
  (repeat' first|(with_reducible first|exact⟨⟩|(refine gB ?_;intros)|refine gT ?_ ?_)|refine gs ?_|simp(maxDischargeDepth:=3) only[↓X,↓Y,↓Q,S1,↓reduceIte,Nat.reduceEqDiff,Nat.reduceAdd,Int.reduceLT,Int.reduceLE,Int.reduceNeg,Int.reduceBEq,Int.reduceBNe,Int.reduceEq,Nat.reduceLeDiff,Nat.reduceMul,Nat.reduceLT, *,wC]|simp(singlePass:=true) (maxDischargeDepth:=99) only[*,S2,Nat.reduceLT,wC])
  exact⟨_,rfl,_,_,rfl,Own.more (O1.1 _ FR) FR,Own.more (O2.1 _ FR) FR⟩
end
section
variable{w:World}{B:Nat}{v:Value}
theorem slicesIndexI24{x:Int}{l:List Int}(hB:B≤w.heap.size)(hv:Sl w B none 1 v (l.map intV)):Ret Tryz.prog 115 #[v,intV x] w (intV (fidx (λy=>x == y) l)):=by
 have⟨hn,hx⟩:=bg0 w
 have hv':=hv.k hB
 have hmax:l.length≤9223372036854775807:=by simpa using hv.maxLen
 (refine callsV_of Tryz.func115 rfl KR KR ?_;rw[Tryz.results115])
 (repeat' first|(with_reducible first|exact⟨⟩|(refine gB ?_;intros)|refine gT ?_ ?_)|refine gs ?_|refine sx ?_)
 refine loop_k (l.length) (λg0 k g _=>g 8=.int .i64 k∧(g 0=g0 0∧g 1=g0 1∧g 7=g0 7)∧Hid (∀i (h:i<l.length),i<k→l[i]≠x)) KR (hmax) ?_ ?_ ?_
 ·(repeat' first|(with_reducible first|exact⟨⟩|(refine gB ?_;intros)|refine gT ?_ ?_)|refine gs ?_|simp(maxDischargeDepth:=3) only[↓X,↓Y,↓Q,S1,↓reduceIte,Nat.reduceEqDiff,Nat.reduceAdd,Int.reduceLT,Int.reduceLE,Int.reduceNeg,Int.reduceBEq,Int.reduceBNe,Int.reduceEq,Nat.reduceLeDiff,Nat.reduceMul,Nat.reduceLT, *,List.take_zero,List.all_nil,List.any_nil]|simp(singlePass:=true) (maxDischargeDepth:=99) only[*,S2,Nat.reduceLT,List.take_zero,List.all_nil,List.any_nil])
  exact λi _ h=>absurd h (by omega)
 ·rintro k m g wk hk hlt _ _ _ hw ⟨hi,hf,hp⟩
  simp(maxDischargeDepth:=3) only[U,↓reduceIte,Nat.reduceEqDiff, *] at hf
  (repeat' first|(with_reducible first|exact⟨⟩|(refine gB ?_;intros)|refine gT ?_ ?_)|refine gs ?_|refine sx ?_)
  ·rename_i he
   subst he
   congr 1
   unfold fidx
   rw[List.findIdx?_eq_some_iff_getElem.2 ⟨hlt,by simp,λj hj=>by have:=hp.out j (by omega) hj;simpa using λe=>this e.symm⟩]
  ·rename_i hb he
   refine next_k hk hlt ?_ FR
   (repeat' first|(with_reducible first|exact⟨⟩|(refine gB ?_;intros)|refine gT ?_ ?_)|refine gs ?_|refine sx ?_)
   intro i h1 h2
   rcases Nat.lt_or_eq_of_le (Nat.le_of_lt_succ h2) with h3|rfl
   ·exact hp.out i h1 h3
   ·exact λe=>he e.symm
 ·rintro g wk _ _ _ ⟨hi,hf,hp⟩
  simp(maxDischargeDepth:=3) only[U,↓reduceIte,Nat.reduceEqDiff, *] at hf
  (repeat' first|(with_reducible first|exact⟨⟩|(refine gB ?_;intros)|refine gT ?_ ?_)|refine gs ?_|refine sx ?_)
  congr 1
  unfold fidx
  rw[List.findIdx?_eq_none_iff.2 λy hy=>by
   obtain⟨i,hi',rfl⟩:=List.getElem_of_mem hy
   have:=hp.out i hi' hi'
   simpa using λe=>this e.symm]
theorem slicesContainsI24{x:Int}{l:List Int}(hB:B≤w.heap.size)(hv:Sl w B none 1 v (l.map intV)):Ret Tryz.prog 62 #[v,intV x] w (.bool (l.contains x)):=by
 have⟨hn,hx⟩:=bg0 w
 have hbw:Bl B w w:=Bl.refl hB
 have hV:=λw' (h:Bl B w w')=>hv.bl h
 replace hV:Hid _:=hV
 have e:decide (0≤fidx (λy=>x == y) l)=l.contains x:=by
  rw[Bool.eq_iff_iff,decide_eq_true_eq,List.contains_iff_mem]
  unfold fidx
  cases h:l.findIdx? (λy=>x == y) with
  |none=>
   rw[List.findIdx?_eq_none_iff] at h
   constructor
   ·intro h1
    exact absurd h1 (by decide)
   ·intro h1
    have:=h x h1
    simp at this
  |some i=>
   rw[List.findIdx?_eq_some_iff_getElem] at h
   obtain⟨h1,h2,_⟩:=h
   refine⟨λ_=>?_,λ_=>Int.natCast_nonneg i⟩
   have:x=l[i]:=by simpa using h2
   rw[this]
   exact List.getElem_mem h1
 (refine callsV_of Tryz.func62 rfl KR KR ?_;rw[Tryz.results62])
 (repeat' first|(with_reducible first|exact⟨⟩|(refine gB ?_;intros)|refine gT ?_ ?_)|refine gs ?_|((with_reducible refine at_f 115 ?_);refine ret_k (slicesIndexI24 (B:=B) FR (hV.out _ FR)) λ_ _ _=>?_)|refine sx ?_)
 all_goals (rw[←e])
end
section
variable{w:World}{B Bo:Nat}{u:SiteVs}{sd:SiteD}{wv sv av hv rv ov:Value}{vs:List Value}{l:List SrvV}{p:PlanD}{y:WorldD}{L:List Nat}
theorem prefixAlong(hT:TabW w)(hB:B≤w.heap.size)(hs:SiteR w B u sd)(hl:WishR w B wv l)(hpl:PlanR w B sv av vs p)(hx0:WorldR w B hv rv y)(he:planErr sd (l.map (·.x)) p=0)(hsh:Shape p)(hv0:validB sd (l.map (·.x)) y=true)(hchk:Chk p 0 L)(hlen:L.length≤12)(hLlt:∀i∈L,i<p.steps.length)
 (hrun:(runL sd (l.map (·.x)) p.steps L y).2=-1) (hBo:Bo≤w.heap.size) (ho:Sl w Bo none 1 ov (L.map natV)) :
 CallsV Tryz.prog 32 #[.agg (siteC u sd).toArray,.agg #[wv],.agg #[hv,rv],.agg #[sv,av],ov] w λr w'=>Ext w w'∧∃lv,r=.tuple #[lv,.int .i64 0]∧OwnWL w' w.heap.size lv (runL sd (l.map (·.x)) p.steps L y).1:=by
 have⟨hn,hx⟩:=bg0 w
 have hs':=hs.sk hB
 have hl':=hl.sk hB
 have hp':=hpl.sk hB
 have hx':=hx0.sk hB
 have hS:=hs'.2.2.2.2.2.2
 have hW:=hl'.2.2
 have hP:=hp'.2.2.2.2.2.2
 have hX:=hx'.2.2.2.2
 have hbw:Bl B w w:=Bl.refl hB
 have hbo:Bl Bo w w:=Bl.refl hBo
 have ho':=ho.k hBo
 have ovone:=ho.one
 have hsv1:=hpl.s.one
 have hav1:=hp'.2.2.2.2.1
 have hh1:=hx0.h.one
 have hr1:=hx0.r.one
 have hT':=λw' (h:Ext w w')=>hT.ext h
 replace hT':Hid _:=hT'
 have hob:=λw' (h:Bl Bo w w')=>ho.bl h
 replace hob:Hid _:=hob
 have he':Hid (planErr sd (l.map (·.x)) p=0):=he
 have hLlt':Hid (∀i∈L,i<p.steps.length):=hLlt
 have hsm:=hsh.small
 have hL4:∀d,idealB p d=true→d<4096:=λd h=>by
  simp only[idealB,Bool.and_eq_true,decide_eq_true_eq] at h
  exact Nat.lt_of_lt_of_le h.1 (two_pow_le hsm)
 replace hL4:Hid _:=hL4
 have hpv:=λw' (h1:Ext w w') (h2:Bl B w w') (h3:B≤w'.heap.size)=>planValid (w:=w') (B:=B) (hT'.out w' h1) h3 (hS w' h2) (hW w' h2) (hP w' h2)
 rw[he] at hpv
 have hwv:=λw' (h2:Bl B w w') (h3:B≤w'.heap.size)=>worldValid (w:=w') (B:=B) h3 (hS w' h2) (hW w' h2) (hX w' h2)
 rw[hv0] at hwv
 have hchk':Hid (Chk p 0 (L.drop 0)):=hchk
 clear he hpl hx0 hp' hx' hs' hl' hLlt hchk ho hv0 hsh
 (refine callsV_of Tryz.func32 rfl KR KR ?_;rw[Tryz.results32])
 (repeat' first|(with_reducible first|exact⟨⟩|(refine gB ?_;intros)|refine gT ?_ ?_)|refine gs ?_|((with_reducible refine at_f 60 ?_);refine ret_k (hpv _ FR FR FR) λ_ _ _=>?_)|((with_reducible refine at_f 53 ?_);refine ret_k (hwv _ FR FR) λ_ _ _=>?_)|refine sxWL240 ?_)
 clear hpv hwv
 refine loop_k L.length (λg0 k g _=>g 34=.int .i64 (k:Int)∧(g 4=g0 4∧g 5=g0 5∧g 6=g0 6∧g 7=g0 7∧g 8=g0 8∧g 32=g0 32∧g 33=g0 33)∧∃d:Nat,g 13=.int .i64 (d:Int)∧Hid (Chk p d (L.drop k))) KR (by omega) ?_ ?_ ?_
 ·(repeat' first|(with_reducible first|exact⟨⟩|(refine gB ?_;intros)|refine gT ?_ ?_)|refine gs ?_|refine sx ?_)
  exact⟨0,rfl,hchk'.out⟩
 ·rintro k m g wk hk hlt nk sk bk hw ⟨hi,hf,d,hd,hp⟩
  simp(maxDischargeDepth:=3) only[U,↓reduceIte,Nat.reduceEqDiff, *] at hf
  have hc:=hp.out
  rw[List.drop_eq_getElem_cons hlt] at hc
  obtain⟨c1,c2,c3,c4,c5⟩:=hc
  have hd4:=hL4.out d c1
  have has:askedE 0 p (d:Int)=0:=by simp[askedE,idealI,c1]
  have hmem:L[k]∈enabledL p d:=by simp[enabledL,c2,c3,c4]
  have hcont:(intL (enabledL p d)).contains ((L[k]:Nat):Int)=true:=by
   rw[List.contains_iff_mem,intL,List.mem_map]
   exact⟨_,hmem,rfl⟩
  have e2:=shlI_nat (k:=L[k]) (by omega)
  have h2x:=two_pow_le (k:=L[k]) (by omega)
  have e3:=orI_nat (a:=d) (b:=2^L[k]) (by omega) (by omega)
  have hEn:=λw' (h1:Ext w w') (h2:Bl B w w') (h3:B≤w'.heap.size)=>planEnabledX (w:=w') (B:=B) (x:=(d:Int)) (hT'.out w' h1) h3 (hS w' h2) (hW w' h2) (hP w' h2) he'.out
  simp only[has,if_true,Int.toNat_natCast] at hEn
  replace hEn:Hid _:=hEn
  have c5':Hid _:=c5
  clear hp c1 c3 c4 c5 hmem has
  (repeat' first|(with_reducible first|exact⟨⟩|(refine gB ?_;intros)|refine gT ?_ ?_)|refine gs ?_|refine sx ?_)
  refine call_k (hEn.out _ FR FR FR) ?_
  rintro _ w1 n1 s1 ⟨eV,rfl,hev⟩
  have evone:=hev.one
  have hevs:Sl w1 w1.heap.size none 1 eV ((intL (enabledL p d)).map intV):=by
   have:=hev.sl1 (f:=natV)
   rwa [show(enabledL p d).map natV=(intL (enabledL p d)).map intV by rw[intL,List.map_map];rfl] at this
  have hE:=λw' (h:Bl w1.heap.size w1 w')=>hevs.bl h
  replace hE:Hid _:=hE
  have b1:Bl w1.heap.size w1 w1:=Bl.refl (Nat.le_refl _)
  clear hev hevs hEn
  (repeat' first|(with_reducible first|exact⟨⟩|(refine gB ?_;intros)|refine gT ?_ ?_)|refine gs ?_|((with_reducible refine at_f 62 ?_);refine ret_k (slicesContainsI24 (B:=w1.heap.size) FR (hE.out _ FR)) λ_ _ _=>?_)|refine sx ?_)
  refine next_k hk hlt ?_ FR
  (repeat' first|(with_reducible first|exact⟨⟩|(refine gB ?_;intros)|refine gT ?_ ?_)|refine gs ?_|refine sx ?_)
  exact⟨_,rfl,c5'.out⟩
 ·rintro g wk nk sk bk ⟨hi,hf,d,hd,hp⟩
  simp(maxDischargeDepth:=3) only[U,↓reduceIte,Nat.reduceEqDiff, *] at hf
  clear hp
  (repeat' first|(with_reducible first|exact⟨⟩|(refine gB ?_;intros)|refine gT ?_ ?_)|refine gs ?_|refine sx ?_)
  refine call_k (prefixFollow (B:=B) (Bo:=Bo) FR (hS _ FR) (hW _ FR) (hP _ FR) (hX _ FR) FR (hob.out _ FR) hLlt'.out (by omega)) ?_
  rintro _ w2 n2 s2 ⟨lv,rfl,hlv⟩
  rw[hrun]
  have lvone:=hlv.one
  have hO:=λw' (h:Ext w2 w')=>hlv.ext h
  replace hO:Hid _:=hO
  have r2:=Ext.refl w2
  clear hlv hrun
  (repeat' first|(with_reducible first|exact⟨⟩|(refine gB ?_;intros)|refine gT ?_ ?_)|refine gs ?_|refine sx ?_)
  exact⟨_,rfl,(hO.out _ FR).more FR⟩
end
end Go.Proofs.YtphciegaokdolaaGreatDoor
