/- A store of one field into a row of the call's own. -/
import Derived.Test.YtphciegaokdolaaGreatDoorStart13b
import Derived.Test.YtphciegaokdolaaGreatDoorPureX24
import Derived.Test.YtphciegaokdolaaGreatDoorSort20
namespace Go.Proofs.YtphciegaokdolaaGreatDoor
set_option linter.unusedSimpArgs false
set_option linter.unusedVariables false
open Go Go.RowKit
set_option maxRecDepth 100000
set_option linter.unusedSectionVars false
set_option maxHeartbeats 1000000
theorem sxOwn11{p q:Prop}(hq:q)(h:p=q:=by first|(simp(maxDischargeDepth:=3) only[↓X,↓Y,↓Q,S1,↓reduceIte,Nat.reduceEqDiff,Nat.reduceAdd,Int.reduceLT,Int.reduceLE,Int.reduceNeg,Int.reduceBEq,Int.reduceBNe,Int.reduceEq,Nat.reduceLeDiff,Nat.reduceMul,Nat.reduceLT, *,putAt,List.set_cons_zero,List.set_cons_succ,List.length_cons,List.length_nil,Nat.reduceLeDiff,idxOk,flatP,Nat.reduceMul,Nat.reduceLT];try exact rfl)|(simp(singlePass:=true) (maxDischargeDepth:=99) only[*,S2,Nat.reduceLT,putAt,List.set_cons_zero,List.set_cons_succ,List.length_cons,List.length_nil,Nat.reduceLeDiff,idxOk,flatP,Nat.reduceMul,Nat.reduceLT];try exact rfl)):p:=h▸hq
theorem sxOwn12{p q:Prop}(hq:q)(h:p=q:=by first|(simp(maxDischargeDepth:=3) only[↓X,↓Y,↓Q,S1,↓reduceIte,Nat.reduceEqDiff,Nat.reduceAdd,Int.reduceLT,Int.reduceLE,Int.reduceNeg,Int.reduceBEq,Int.reduceBNe,Int.reduceEq,Nat.reduceLeDiff,Nat.reduceMul,Nat.reduceLT, *,stepV,stepC];try exact rfl)|(simp(singlePass:=true) (maxDischargeDepth:=99) only[*,S2,Nat.reduceLT,stepV,stepC];try exact rfl)):p:=h▸hq
theorem flat_set1{k off:Nat}(u:Value)(ho:off<k):∀(l:List (List Value)) (i:Nat) (h:i<l.length),(∀c∈l,c.length=k)→l.flatten.set (i * k+off) u=(l.set i ((l[i]).set off u)).flatten
 |[],i,h,_=>absurd h (by simp)
 |a::l,0,_,hc=>by
  have ha:=hc a (List.mem_cons_self ..)
  simp only[List.flatten_cons,Nat.zero_mul,Nat.zero_add,List.set_cons_zero,List.getElem_cons_zero]
  rw[List.set_append_left _ _ (by omega)]
 |a::l,i+1,h,hc=>by
  have ha:=hc a (List.mem_cons_self ..)
  simp only[List.flatten_cons,List.set_cons_succ,List.getElem_cons_succ]
  rw[List.set_append_right _ _ (by rw[ha,Nat.succ_mul];omega),ha,show(i+1) * k+off - k=i * k+off by rw[Nat.succ_mul];omega,flat_set1 u ho l i (by simpa using h) λc hc'=>hc c (List.mem_cons_of_mem _ hc')]
section
variable{w:World}{B e sz:Nat}{v:Value}{cs:List (List Value)}
theorem own_set1{t' i off:Nat}{u:Value}{f:World→Prop}(ht:tyK Tryz.prog t'=some none)(hown:Own w B e sz v cs)(hi:i<cs.length)(hoff:off<sz)(hu:u.oneCell'=true)
 (h:∀b w',Now w'→blockOf v=some b→B≤b→b<w.heap.size→Own w' B e sz v (cs.set i ((cs[i]).set off u))→Sc w w' b→Cg b w w'→f w'):storeX Tryz.prog t' (addF (elemAt v sz i) off) u w f:=by
 rcases hown.1.2 with ⟨rfl,hn⟩|⟨g,cap,cur,rfl,hbg,hg,hnc,hcm,hcs,htake⟩
 ·omega
 ·have hle:i * sz+off<cs.length * sz:=by
   have:=Nat.mul_le_mul_right sz (Nat.succ_le_of_lt hi)
   rw[Nat.succ_mul] at this
   omega
  have hcap:cs.length * sz≤cap * sz:=Nat.mul_le_mul_right _ hnc
  have hb:Blk w g e cur.toList:=hg
  have he:addF (elemAt (.slice (some ⟨g,0,none⟩) cs.length cap) sz i) off=.pointer (some ⟨g,i * sz+off,none⟩):=by
   simp only[elemAt,addF,add_none,Nat.zero_add]
  rw[he]
  refine store_intro ht hb (by rw[Array.length_toList,hcs];omega) hu λw' hb' hc=>?_
  have hall:∀c∈cs.set i ((cs[i]).set off u),c.length=sz:=by
   intro c hc
   rcases List.mem_or_eq_of_mem_set hc with hc|rfl
   ·exact hown.each c hc
   ·rw[List.length_set];exact hown.each _ (List.getElem_mem hi)
  refine h g w' trivial rfl hbg hb.lt (own_of_blk hb' (by rw[List.length_set]) hnc hcm (by rw[List.length_set,Array.length_toList,hcs]) ?_ hall hbg (by rw[List.length_set];exact hown.small)) hc.sc hc
  rw[List.take_set,htake]
  exact flat_set1 u hoff cs i hi hown.each
end
def leftSt(x:Nat)(v:WorldD)(hs:List StateD)(i:Nat)(st:StepD):List StateD:=if (x.testBit i&&st.kind == 7)=true then hs.set st.host.toNat ⟨(hs.getD st.host.toNat ⟨0,0⟩).phase,(hostAt v st.host).firmware⟩ else hs
def leftN(x:Nat)(v:WorldD)(steps:List StepD)(hs:List StateD):Nat→List StateD
 |0=>hs
 |k+1=>leftSt x v (leftN x v steps hs k) k (stA steps k)
def leftW(e:Int)(s:SiteD)(wl:List ServiceD)(p:PlanD)(y:WorldD)(x:Int):WorldD:=if wldE e s wl p y x=0 then⟨leftN x.toNat (wldW e s wl p y x) p.steps y.hosts p.steps.length,y.replicas⟩ else noW
theorem leftSt_len{x:Nat}{v:WorldD}{hs:List StateD}{i:Nat}{st:StepD}:(leftSt x v hs i st).length=hs.length:=by
 unfold leftSt
 split
 ·rw[List.length_set]
 ·rfl
theorem leftN_len{x:Nat}{v:WorldD}{steps:List StepD}{hs:List StateD}:∀k,(leftN x v steps hs k).length=hs.length
 |0=>rfl
 |k+1=>by rw[leftN,leftSt_len,leftN_len k]
theorem plan_hosts{s:SiteD}{wl:List ServiceD}{p:PlanD}(h:planErr s wl p=0):∀i (hi:i<p.steps.length),0≤p.steps[i].host∧p.steps[i].host<s.hosts.length:=λi hi=>by
 unfold planErr planErrE at h
 split at h
 ·split at h
  ·cases h
  ·split at h
   ·rename_i h2
    have h3:=List.all_eq_true.1 h2.2 _ (List.getElem_mem hi)
    rw[stepB_eq] at h3
    have h4:=step_parts h3
    exact⟨h4.2.2.2.1,h4.2.2.2.2.1⟩
   ·cases h
 ·cases h
theorem run_len{s:SiteD}{wl:List ServiceD}{steps:List StepD}{L:List Nat}{y:WorldD}(h:(runL s wl steps L y).2=-1):(lastW (runL s wl steps L y).1 y).hosts.length=y.hosts.length:=by
 obtain⟨h1,h2⟩:=runL_ok L y h
 have hall:∀i,i≤L.length→((y::(runL s wl steps L y).1).getD i noW).hosts.length=y.hosts.length:=λi=>by
  induction i with
  |zero=>intro _;rfl
  |succ i ih=>
   intro hi
   obtain⟨a,b⟩:=h2 i (by omega)
   rw[b,touch_len (apply_iff.1 a),ih (by omega)]
 have h3:=hall L.length (Nat.le_refl _)
 generalize (runL s wl steps L y).1=ws at *
 rcases ws with _|⟨a,r⟩
 ·rfl
 ·have e:lastW (a::r) y=(y::a::r).getD L.length noW:=by
   rw[lastW_get (by simp),←h1]
   simp[List.getD_eq_getElem?_getD]
  rw[e,h3]
theorem left_facts{e x:Int}{s:SiteD}{wl:List ServiceD}{p:PlanD}{y:WorldD}(he:planErr s wl p=e)(h0:wldE e s wl p y x=0):e=0∧(0≤x∧x.toNat<4096)∧p.steps.length≤12∧(wldW e s wl p y x).hosts.length=y.hosts.length∧(∀i (hi:i<p.steps.length),0≤p.steps[i].host∧p.steps[i].host<y.hosts.length)∧validB s wl y=true:=by
 have h0':=h0
 unfold wldE at h0
 split at h0
 ·rename_i ha
  split at h0
  ·rename_i hv
   split at h0
   ·rename_i hr
    have ha':=ha
    unfold askedE at ha'
    split at ha'
    ·rename_i e0
     split at ha'
     ·rename_i hi
      obtain⟨ho,_⟩:=planErr_ok (he.trans e0)
      have hsm:=ho.small
      have hb:0≤x∧idealB p x.toNat=true:=by simpa [idealI] using hi
      have hlt:x.toNat<2^p.steps.length:=by
       have:=hb.2
       simp only[idealB,Bool.and_eq_true,decide_eq_true_eq] at this
       exact this.1
      have h4:2^p.steps.length≤2^12:=Nat.pow_le_pow_right (by decide) hsm
      have hvp:=valid_parts hv
      refine⟨e0,⟨hb.1,Nat.lt_of_lt_of_le hlt h4⟩,hsm,?_,λi hi=>?_,hv⟩
      ·unfold wldW
       rw[if_pos h0']
       exact run_len hr
      ·have:=plan_hosts (he.trans e0) i hi
       rw[hvp.2.2.1]
       exact this
     ·cases ha'
    ·exact absurd ha' (by assumption)
   ·cases h0
  ·cases h0
 ·exact absurd h0 (by assumption)
set_option maxHeartbeats 2000000
theorem bit_is1{a k:Nat}(ha:a<4611686018427387904)(hk:k<62):(andI .i64 (shrI .i64 (a:Int) (k:Int)) 1 == 1)=a.testBit k:=by
 rw[bit_nat ha hk]
 cases a.testBit k<;>rfl
theorem left_next{X:Nat}{V:WorldD}{steps:List StepD}{hs:List StateD}{k h:Nat}(hk:k<steps.length)(hb:X.testBit k=true)(h7:steps[k].kind=7)(hh:steps[k].host=(h:Int))(h1:h<hs.length)(h2:h<V.hosts.length):∃h1':h<(leftN X V steps hs k).length,leftN X V steps hs (k+1)=(leftN X V steps hs k).set h ⟨(leftN X V steps hs k)[h].phase,V.hosts[h].firmware⟩:=by
 refine⟨by rw[leftN_len];exact h1,?_⟩
 rw[leftN,leftSt,stA_at hk,if_pos (by simp[hb,h7]),hh,Int.toNat_natCast,List.getD_eq_getElem?_getD,List.getElem?_eq_getElem (by rw[leftN_len];exact h1)]
 simp[hostAt,List.getElem?_eq_getElem h2]
theorem left_same{X:Nat}{V:WorldD}{steps:List StepD}{hs:List StateD}{k:Nat}(hk:k<steps.length)(hb:¬(X.testBit k=true∧steps[k].kind=7)):leftN X V steps hs (k+1)=leftN X V steps hs k:=by
 rw[leftN,leftSt,stA_at hk,if_neg (by simpa using hb)]
section
variable{w:World}{B:Nat}{u:SiteVs}{sd:SiteD}{wv sv av hv rv:Value}{vs:List Value}{l:List SrvV}{p:PlanD}{y:WorldD}
theorem undoLeft{x e:Int}(hT:TabW w)(hB:B≤w.heap.size)(hs:SiteR w B u sd)(hl:WishR w B wv l)(hpl:PlanR w B sv av vs p)(hx0:WorldR w B hv rv y)(he:planErr sd (l.map (·.x)) p=e) :
 CallsV Tryz.prog 16 #[.agg (siteC u sd).toArray,.agg #[wv],.agg #[hv,rv],.agg #[sv,av],intV x] w λr w'=>Ext w w'∧∃v0,r=.tuple #[v0,intV (wldE e sd (l.map (·.x)) p y x)]∧OwnW w.heap.size v0 w' (leftW e sd (l.map (·.x)) p y x):=by
 have⟨hn,hx⟩:=bg0 w
 have hs':=hs.sk hB
 have hl':=hl.sk hB
 have hp':=hpl.sk hB
 have hx':=hx0.sk hB
 have hS:=hs'.2.2.2.2.2.2
 have hW:=hl'.2.2
 have hP:=hp'.2.2.2.2.2.2
 have hst:=hp'.1
 have hX:=hx'.2.2.2.2
 have hbw:Bl B w w:=Bl.refl hB
 have hsv1:=hpl.s.one
 have hav1:=hp'.2.2.2.2.1
 have hh1:=hx0.h.one
 have hr1:=hx0.r.one
 have hT':=λw' (h:Ext w w')=>hT.ext h
 replace hT':Hid _:=hT'
 have hlf:=λh0=>left_facts (x:=x) (y:=y) he h0
 replace hlf:Hid _:=hlf
 have he':Hid (planErr sd (l.map (·.x)) p=e):=he
 unfold leftW
 clear he hpl hx0 hp' hx' hs' hl'
 (refine callsV_of Tryz.func16 rfl KR KR ?_;rw[Tryz.results16])
 (repeat' first|(with_reducible first|exact⟨⟩|(refine gB ?_;intros)|refine gT ?_ ?_)|refine gs ?_|simp(maxDischargeDepth:=3) only[↓X,↓Y,↓Q,S1,↓reduceIte,Nat.reduceEqDiff,Nat.reduceAdd,Int.reduceLT,Int.reduceLE,Int.reduceNeg,Int.reduceBEq,Int.reduceBNe,Int.reduceEq,Nat.reduceLeDiff,Nat.reduceMul,Nat.reduceLT, *,siteC]|simp(singlePass:=true) (maxDischargeDepth:=99) only[*,S2,Nat.reduceLT,siteC])
 rename_i b5 w5 n5 k5 s5 q5 b6 w6 n6 k6 s6 q6 b7 w7 n7 k7 s7 q7 b8 w8 n8 k8 s8 q8 b10 w10 n10 k10 s10 q10
 refine call_k (prefixWorld (x:=x) (B:=B) (hT'.out _ FR) FR (hS _ FR) (hW _ FR) (hP _ FR) (hX _ FR) he'.out) ?_
 rintro _ w1 n1 s1 ⟨v0,rfl,h0a,r0a,rfl,oh0,or0⟩
 have oh01:=oh0.one
 have or01:=or0.one
 by_cases h0:wldE e sd (l.map (·.x)) p y x=0
 rotate_left
 ·simp only[if_neg h0]
  clear hlf oh0 or0
  generalize wldE e sd (l.map (·.x)) p y x=E at *
  have hE1:(E == 0)=false:=by simpa using h0
  have hE2:(E != 0)=true:=by simpa using h0
  (repeat' first|(with_reducible first|exact⟨⟩|(refine gB ?_;intros)|refine gT ?_ ?_)|refine gs ?_|refine sx ?_)
  exact⟨_,rfl,OwnW.none _ _⟩
 obtain⟨rfl,⟨hx00,hx4⟩,hst12,hVl,hph,hv0⟩:=hlf.out h0
 simp only[h0,if_true]
 obtain⟨xn,rfl⟩:∃xn:Nat,x=(xn:Int):=⟨x.toNat,by omega⟩
 rw[Int.toNat_natCast] at hx4
 simp only[Int.toNat_natCast]
 generalize wldW 0 sd (l.map (·.x)) p y xn=vw at *
 obtain⟨hlh,hlr⟩:=valid_len24 hv0
 have KV:WorldR w1 w1.heap.size h0a r0a vw:=⟨oh0.slN (f:=stateC),or0.slN (f:=replC)⟩
 have KV':=KV.sk (Nat.le_refl _)
 have b1:Bl w1.heap.size w1 w1:=Bl.refl (Nat.le_refl _)
 have hVl':Hid (vw.hosts.length=y.hosts.length):=hVl
 have hph':Hid _:=hph
 have h0':Hid _:=h0
 have hv0':Hid _:=hv0
 clear oh0 or0 hlf KV hVl hph h0 hv0
 (repeat' first|((with_reducible refine wpd_at 4 ?_);refine wpd_hold ?_)|(with_reducible first|exact⟨⟩|(refine gB ?_;intros)|refine gT ?_ ?_)|refine gs ?_|refine sx ?_)
 rename_i b12 w12 n12 k12 s12 q12 wk nk kk sk
 have hwk:w.heap.size≤wk.heap.size:=FR
 have bwk:Bl wk.heap.size wk wk:=Bl.refl (Nat.le_refl _)
 unfold wpdH
 refine wpd_rel 8 (λiI v w9=>match iI with
  |0=>v=.pointer (some ⟨b7,0,none⟩)
  |1=>v=hv
  |2=>∃u,v=u∧OwnH w9 wk.heap.size u y.hosts
  |3=>v=.pointer (some ⟨b7,1,none⟩)
  |4=>v=rv
  |5=>∃u,v=u∧OwnP w9 wk.heap.size u y.replicas
  |6=>∃a b,v=.agg #[a,b]∧OwnH w9 wk.heap.size a y.hosts∧OwnP w9 wk.heap.size b y.replicas
  |7=>∃b,v=.pointer (some ⟨b,0,none⟩)∧Blk w9 b 36 [.slice none 0 0,.slice none 0 0]∧wk.heap.size≤b
  |_=>False) KR KR KR ?_ ?_ ?_
 ·intro iI v w1 w2 hR hx9
  match iI,hR with
  |0,h|1,h=>exact h
  |2,h=>exact(let ⟨u,e,o⟩:=h;⟨u,e,o.ext hx9⟩)
  |3,h|4,h=>exact h
  |5,h=>exact(let ⟨u,e,o⟩:=h;⟨u,e,o.ext hx9⟩)
  |6,h=>exact(let ⟨a,b,e,o1,o2⟩:=h;⟨a,b,e,o1.ext hx9,o2.ext hx9⟩)
  |7,⟨b,e,h1,h2⟩=>exact⟨b,e,h1.ext hx9,h2⟩
 ·intro iI oO hi ho gF w9 hx9 hdep hag
  have⟨s9,n9,r9,z9⟩:=bg9 hx9
  rcases iI with _|_|_|_|_|_|_|_|iI
  cases ho
  have a7:=hag.at 7 KR
  simp only[S5,↓reduceIte,Nat.reduceEqDiff,initF, *] at a7
  clear hag hdep
  refine relStep_off rfl ?_
  rotate_left
  cases ho
  have d0:(gF 30)=.pointer (some ⟨b7,0,none⟩):=hdep ⟨0,.data⟩ (by simp) rfl _ _ rfl rfl
  clear hag hdep
  refine relStep_off rfl ?_
  rotate_left
  ·cases ho
   have d1:(gF 31)=hv:=hdep ⟨1,.data⟩ (by simp) rfl _ _ rfl rfl
   clear hag hdep
   refine relStep_off rfl ?_
   (repeat' first|(with_reducible first|exact⟨⟩|(refine gB ?_;intros)|refine gT ?_ ?_)|refine gs ?_|refine sxOwn11 ?_)
   refine CallsV.mono (slicesCloneH24 (B:=B) FR (WorldR.h (hX _ FR)) hlh) λv w10 hh=>⟨hh.1,_,rfl,hh.2.more z9⟩
  cases ho
  have a7:=hag.at 7 KR
  simp only[S5,↓reduceIte,Nat.reduceEqDiff,initF, *] at a7
  clear hag hdep
  refine relStep_off rfl ?_
  rotate_left
  cases ho
  have d3:(gF 33)=.pointer (some ⟨b7,1,none⟩):=hdep ⟨3,.data⟩ (by simp) rfl _ _ rfl rfl
  clear hag hdep
  refine relStep_off rfl ?_
  rotate_left
  ·cases ho
   have d4:(gF 34)=rv:=hdep ⟨4,.data⟩ (by simp) rfl _ _ rfl rfl
   clear hag hdep
   refine relStep_off rfl ?_
   (repeat' first|(with_reducible first|exact⟨⟩|(refine gB ?_;intros)|refine gT ?_ ?_)|refine gs ?_|refine sxOwn11 ?_)
   refine CallsV.mono (slicesCloneP (B:=B) FR (WorldR.r (hX _ FR)) hlr) λv w10 hh=>⟨hh.1,_,rfl,hh.2.more z9⟩
  ·cases ho
   obtain⟨u2,e2,o2⟩:=hdep ⟨2,.data⟩ (by simp) rfl _ _ rfl rfl
   have H2:=cellsL_one o2.one
   obtain⟨u5,e5,o5⟩:=hdep ⟨5,.data⟩ (by simp) rfl _ _ rfl rfl
   have H5:=cellsL_one o5.one
   clear hag hdep
   refine relStep_off rfl ?_
   (repeat' first|(with_reducible first|exact⟨⟩|(refine gB ?_;intros)|refine gT ?_ ?_)|refine gs ?_|refine sxOwn11 ?_)
   exact⟨_,_,rfl,o2,o5⟩
  ·cases ho
   clear hag hdep
   refine relStep_off rfl ?_
   (repeat' first|(with_reducible first|exact⟨⟩|(refine gB ?_;intros)|refine gT ?_ ?_)|refine gs ?_|refine sxOwn11 ?_)
   first
    |(rename_i b10 w10 n10 k10 s10 q10;exact⟨_,rfl,k10.2.1 _ k10.2.2.1,FR⟩)
    |(rename_i b10 w10 n10 k10 s10 q10 l10;exact⟨_,rfl,k10.2.1 _ k10.2.2.1,FR⟩)
  ·omega
  all_goals (repeat' first|(with_reducible first|exact⟨⟩|(refine gB ?_;intros)|refine gT ?_ ?_)|refine gs ?_|refine sxOwn11 ?_)
 ·intro g9 w9 hx9 hR hag
  have⟨s9,n9,r9,z9⟩:=bg9 hx9
  have d6:∃a b,(g9 36)=.agg #[a,b]∧OwnH w9 wk.heap.size a y.hosts∧OwnP w9 wk.heap.size b y.replicas:=hR 6 _ _ (by decide) rfl rfl
  obtain⟨a6,b6',e6,oa,ob⟩:=d6
  have HA:=oa.one
  have HB:=ob.one
  have d7:∃b,(g9 14)=.pointer (some ⟨b,0,none⟩)∧Blk w9 b 36 [.slice none 0 0,.slice none 0 0]∧wk.heap.size≤b:=hR 7 _ _ (by decide) rfl rfl
  obtain⟨b7,e7,hb7,q7⟩:=d7
  have k7:=hb7.bk
  have nw7:=Nw.of q7
  have a4:=hag.at 4 KR
  have a8:=hag.at 8 KR
  have a10:=hag.at 10 KR
  have a12:=hag.at 12 KR
  simp only[S5,↓reduceIte,Nat.reduceEqDiff,initF, *] at a4 a8 a10 a12
  clear hag hR
  simp only[List.drop_succ_cons,List.drop_zero]
  have hoa:Hid (OwnH w9 wk.heap.size a6 y.hosts):=oa
  have hob:Hid (OwnP w9 wk.heap.size b6' y.replicas):=ob
  have hz7:Hid (Blk w9 b7 36 [.slice none 0 0,.slice none 0 0]):=hb7
  have c9:Cg b7 w9 w9:=Chg.refl' w9 b7
  clear oa ob hb7
  (repeat' first|(with_reducible first|exact⟨⟩|(refine gB ?_;intros)|refine gT ?_ ?_)|refine gs ?_|refine sx ?_)
  rename_i wb nb kb sb
  have hkp:Kp b7 wb wb:=kb.2.2.1
  have hbl:Bl wk.heap.size wk wb:=FR
  have hbk:=kb.2.1
  have cb:Cg b7 w9 wb:=FR
  have J0:Hid (OwnH wb wk.heap.size a6 (leftN xn vw p.steps y.hosts 0)∧OwnP wb wk.heap.size b6' y.replicas):=⟨hoa.out.fr hz7.out cb (.inl (by decide)),hob.out.fr hz7.out cb (.inl (by decide))⟩
  clear hoa hob hz7 cb c9 k7
  refine loop_g p.steps.length (λg0 j g w'=>g 40=.int .i64 j∧(g 4=g0 4∧g 10=g0 10∧g 12=g0 12∧g 14=g0 14∧g 36=g0 36∧g 38=g0 38∧g 39=g0 39)∧Hid (OwnH w' wk.heap.size a6 (leftN xn vw p.steps y.hosts j)∧OwnP w' wk.heap.size b6' y.replicas∧Bl wk.heap.size wk w'∧Kp b7 wb w')) KR ?_ ?_ ?_
  ·(repeat' first|(with_reducible first|exact⟨⟩|(refine gB ?_;intros)|refine gT ?_ ?_)|refine gs ?_|refine sx ?_)
   all_goals exact⟨J0.out.1,J0.out.2,hbl,hkp⟩
  ·rintro j mj gj wj hj hjt nj ⟨hij,hfj,hJj⟩
   simp(maxDischargeDepth:=3) only[U,↓reduceIte,Nat.reduceEqDiff, *] at hfj
   obtain⟨hoo,oro,hblj,hkpj⟩:=hJj.out
   have sa1:=sa_of hblj.2
   have hbit:(andI .i64 (shrI .i64 (xn:Int) (j:Int)) 1 == 1)=xn.testBit j:=bit_is1 (by omega) (by omega)
   have hge:¬(j:Int)<0:=by omega
   have hwj:IntKind.i64.wrap ((j:Int)+1)=((j+1:Nat):Int):=by rw[wrap_i64_id]<;>omega
   obtain⟨f1,f2,f3,f4,f5,f6,f7,f8⟩:=(hoo.slN (f:=stateC)).v (Nat.le_refl _)
   rw[leftN_len] at f3
   obtain⟨h,hh⟩:∃h:Nat,p.steps[j].host=(h:Int):=⟨p.steps[j].host.toNat,by have:=(hph'.out j hjt).1;omega⟩
   have hhy:h<y.hosts.length:=by have:=(hph'.out j hjt).2;omega
   have hhV:h<vw.hosts.length:=by rw[hVl'.out];exact hhy
   have hhyI:((h:Nat):Int)<((y.hosts.length:Nat):Int):=by omega
   have hhVI:((h:Nat):Int)<((vw.hosts.length:Nat):Int):=by omega
   have hoox:Hid (∀w',Ext wj w'→OwnH w' wk.heap.size a6 (leftN xn vw p.steps y.hosts j)):=λw' h=>hoo.ext h
   have orox:Hid (∀w',Ext wj w'→OwnP w' wk.heap.size b6' y.replicas):=λw' h=>oro.ext h
   have hnx:Hid (xn.testBit j=true→p.steps[j].kind=7→∃h1':h<(leftN xn vw p.steps y.hosts j).length,leftN xn vw p.steps y.hosts (j+1)=(leftN xn vw p.steps y.hosts j).set h ⟨(leftN xn vw p.steps y.hosts j)[h].phase,vw.hosts[h].firmware⟩):=λhb h7=>left_next hjt hb h7 hh hhy hhV
   have hsame:Hid (¬(xn.testBit j=true∧p.steps[j].kind=7)→leftN xn vw p.steps y.hosts (j+1)=leftN xn vw p.steps y.hosts j):=λhb=>left_same hjt hb
   have hptr:=((hoo.slN (f:=stateC)).fv).1 h (by rw[leftN_len];exact hhy)
   have rj:=Ext.refl wj
   have hb14:b7<wj.heap.size:=hkpj.lt
   clear f6 f7 hoo oro hJj
   cases hb:xn.testBit j
   ·have hsm:=hsame.out (by simp[hb])
    clear hnx hsame
    (repeat' first|(with_reducible first|exact⟨⟩|(refine gB ?_;intros)|refine gT ?_ ?_)|refine gs ?_|refine sxOwn12 ?_)
    refine next_g hj hjt ?_
    (repeat' first|(with_reducible first|exact⟨⟩|(refine gB ?_;intros)|refine gT ?_ ?_)|refine gs ?_|refine sx ?_)
    exact⟨hoox.out _ FR,orox.out _ FR⟩
   ·by_cases h7:p.steps[j].kind=7
    rotate_left
    ·have hsm:=hsame.out (λh=>h7 h.2)
     have h7':(p.steps[j].kind == 7)=false:=by simpa using h7
     clear hnx hsame
     (repeat' first|(with_reducible first|exact⟨⟩|(refine gB ?_;intros)|refine gT ?_ ?_)|refine gs ?_|refine sxOwn12 ?_)
     refine next_g hj hjt ?_
     (repeat' first|(with_reducible first|exact⟨⟩|(refine gB ?_;intros)|refine gT ?_ ?_)|refine gs ?_|refine sx ?_)
     exact⟨hoox.out _ FR,orox.out _ FR⟩
    obtain⟨h1',hnxt⟩:=hnx.out hb h7
    have hnxt':Hid _:=hnxt
    clear hnxt hnx hsame
    (repeat' first|((with_reducible refine wpd_at 9 ?_);refine wpd_tail 13 KR KR KR ?_)|(with_reducible first|exact⟨⟩|(refine gB ?_;intros)|refine gT ?_ ?_)|refine gs ?_|simp(maxDischargeDepth:=3) only[↓X,↓Y,↓Q,S1,↓reduceIte,Nat.reduceEqDiff,Nat.reduceAdd,Int.reduceLT,Int.reduceLE,Int.reduceNeg,Int.reduceBEq,Int.reduceBNe,Int.reduceEq,Nat.reduceLeDiff,Nat.reduceMul,Nat.reduceLT, *,stateV,stateC,stepV,stepC]|simp(singlePass:=true) (maxDischargeDepth:=99) only[*,S2,Nat.reduceLT,stateV,stateC,stepV,stepC])
    rename_i b16 w16 n16 k16 s16 q16 wc nc kc sc wd nd sd9
    have hoc:=hoox.out wd FR
    have orc:=orox.out wd FR
    have hbld:Bl wk.heap.size wk wd:=FR
    have hkpd:Kp b7 wb wd:=FR
    have hb18:=hbk _ hkpd
    refine own_set1 (i:=h) (off:=1) KR hoc (by simpa using h1') (by decide) rfl λb' w9' n9' e9 hb9 hl9 hown9 s9' c9=>?_
    have hnew:OwnH w9' wk.heap.size a6 (leftN xn vw p.steps y.hosts (j+1)):=by
     have h8:=hown9
     simp only[List.getElem_map,stateC,List.set_cons_succ,List.set_cons_zero] at h8
     rw[hnxt'.out]
     show Own w9' wk.heap.size _ 2 a6 (((leftN xn vw p.steps y.hosts j).set h ⟨(leftN xn vw p.steps y.hosts j)[h].phase,vw.hosts[h].firmware⟩).map stateC)
     rw[List.map_set]
     exact h8
    have hrp:OwnP w9' wk.heap.size b6' y.replicas:=orc.chg c9 (by rw[←orc.block];exact own_ne hoc orc (by decide) e9)
    have hbl9:Bl wk.heap.size wk w9':=hbld.chg c9 hb9
    have hne9:¬b7=b':=λe=>hoc.ne hb18 (by decide) (by rw[←hoc.block,e9,e])
    have hkp9:Kp b7 wb w9':=hkpd.chg c9 hne9
    have J9:Hid (OwnH w9' wk.heap.size a6 (leftN xn vw p.steps y.hosts (j+1))∧OwnP w9' wk.heap.size b6' y.replicas):=⟨hnew,hrp⟩
    clear e9 hown9 hnew hoc orc hrp hoox orox hptr hb18
    (repeat' first|(with_reducible first|exact⟨⟩|(refine gB ?_;intros)|refine gT ?_ ?_)|refine gs ?_|refine sx ?_)
    refine next_g hj hjt ?_
    (repeat' first|(with_reducible first|exact⟨⟩|(refine gB ?_;intros)|refine gT ?_ ?_)|refine gs ?_|refine sx ?_)
    all_goals exact⟨J9.out.1,J9.out.2,hbl9,hkp9⟩
  ·rintro gj wj nj ⟨hij,hfj,hJj⟩
   simp(maxDischargeDepth:=3) only[U,↓reduceIte,Nat.reduceEqDiff, *] at hfj
   obtain⟨hoo,oro,hblj,hkpj⟩:=hJj.out
   have sa1:=sa_of hblj.2
   have hb14:b7<wj.heap.size:=hkpj.lt
   have oA:=hoo.o
   have oB:=oro.o
   have hnl:¬p.steps.length<p.steps.length:=Nat.lt_irrefl _
   clear hoo oro hJj
   (repeat' first|(with_reducible first|exact⟨⟩|(refine gB ?_;intros)|refine gT ?_ ?_)|refine gs ?_|refine sx ?_)
   exact⟨_,rfl,_,_,rfl,Own.more (oA.1 _ FR) hwk,Own.more (oB.1 _ FR) hwk⟩
end
end Go.Proofs.YtphciegaokdolaaGreatDoor
