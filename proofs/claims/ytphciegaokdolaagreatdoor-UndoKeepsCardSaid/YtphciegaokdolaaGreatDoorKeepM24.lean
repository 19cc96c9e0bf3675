/- The document's answer, layer 17: services. -/
import Derived.Test.YtphciegaokdolaaGreatDoorKeepF24
namespace Go.Proofs.YtphciegaokdolaaGreatDoor
set_option linter.unusedSimpArgs false
set_option linter.unusedVariables false
open Go Go.RowKit
set_option maxRecDepth 100000
set_option linter.unusedSectionVars false
set_option maxHeartbeats 4000000
theorem sxKeepM240{p q:Prop}(hq:q)(h:p=q:=by first|(simp(maxDischargeDepth:=3) only[↓X,↓Y,↓Q,S1,↓reduceIte,Nat.reduceEqDiff,Nat.reduceAdd,Int.reduceLT,Int.reduceLE,Int.reduceNeg,Int.reduceBEq,Int.reduceBNe,Int.reduceEq,Nat.reduceLeDiff,Nat.reduceMul,Nat.reduceLT, *,siteC];try exact rfl)|(simp(singlePass:=true) (maxDischargeDepth:=99) only[*,S2,Nat.reduceLT,siteC];try exact rfl)):p:=h▸hq
theorem sxKeepM242{p q:Prop}(hq:q)(h:p=q:=by first|(simp(maxDischargeDepth:=3) only[↓X,↓Y,↓Q,S1,↓reduceIte,Nat.reduceEqDiff,Nat.reduceAdd,Int.reduceLT,Int.reduceLE,Int.reduceNeg,Int.reduceBEq,Int.reduceBNe,Int.reduceEq,Nat.reduceLeDiff,Nat.reduceMul,Nat.reduceLT, *,srvV,srvC];try exact rfl)|(simp(singlePass:=true) (maxDischargeDepth:=99) only[*,S2,Nat.reduceLT,srvV,srvC];try exact rfl)):p:=h▸hq
theorem sxKeepM243{p q:Prop}(hq:q)(h:p=q:=by first|(simp(maxDischargeDepth:=3) only[↓X,↓Y,↓Q,S1,↓reduceIte,Nat.reduceEqDiff,Nat.reduceAdd,Int.reduceLT,Int.reduceLE,Int.reduceNeg,Int.reduceBEq,Int.reduceBNe,Int.reduceEq,Nat.reduceLeDiff,Nat.reduceMul,Nat.reduceLT, *,siteC,srvV,srvC];try exact rfl)|(simp(singlePass:=true) (maxDischargeDepth:=99) only[*,S2,Nat.reduceLT,siteC,srvV,srvC];try exact rfl)):p:=h▸hq
theorem asc_len24{bound but:Int}:∀(l:List Int) (last:Int),ascB bound but last l=true→last<bound→(l.length:Int)≤bound - last - 1
 |[],last,_,h=>by simp only[List.length_nil];omega
 |n::r,last,h,hl=>by
  simp only[ascB,Bool.and_eq_true,decide_eq_true_eq] at h
  obtain⟨⟨⟨h1,h2⟩,_⟩,h4⟩:=h
  have:=asc_len24 r n h4 h2
  simp only[List.length_cons]
  omega
theorem srvs_at24{n:Int}:∀{l:List ServiceD} {i:Nat},srvsB n i l=true→∀x∈l,∃k:Int,serviceB n k x=true
 |[],_,_,x,hx=>by cases hx
 |a::r,i,h,x,hx=>by
  simp only[srvsB,Bool.and_eq_true] at h
  rcases List.mem_cons.1 hx with rfl|hx
  ·exact⟨_,h.1⟩
  ·exact srvs_at24 h.2 x hx
theorem wish_lens{wl:List ServiceD}(h:wishB wl=true):wl.length≤8∧∀x∈wl,x.apart.length≤8∧x.near.length≤8:=by
 simp only[wishB,Bool.and_eq_true,decide_eq_true_eq] at h
 obtain⟨⟨h1,h2⟩,_⟩:=h
 refine⟨by omega,λx hx=>?_⟩
 obtain⟨k,hk⟩:=srvs_at24 h2 x hx
 simp only[serviceB,Bool.and_eq_true] at hk
 have a:=asc_len24 _ _ hk.1.1.2 (by omega)
 have b:=asc_len24 _ _ hk.1.2 (by omega)
 rw[List.length_map] at b
 omega
theorem count_le24{s:SiteD}{d:Int}:0≤countF s d∧countF s d≤16:=by
 unfold countF
 split
 ·rename_i h
  have hz:=(site_all h).2.2.2.2
  simp only[sizesB,btw,Bool.and_eq_true,decide_eq_true_eq] at hz
  repeat' split
  all_goals omega
 ·omega
theorem own_keep17{w w':World}{B e sz:Nat}{v:Value}{cs:List (List Value)}(h:Own w B e sz v cs)(he:e≠64)(hk:∀c T z,Blk w c T z→T≠64→Blk w' c T z):Own w' B e sz v cs:=h.keep λb hb=>by
 rcases h.1.2 with ⟨rfl,_⟩|⟨g,cap,cur,rfl,_,hgc,_⟩
 ·simp[Value.ownBlock] at hb
 ·obtain rfl:g=b:=Option.some.inj hb
  have h1:Blk w g e cur.toList:=by unfold Blk;rw[hgc]
  exact(hk g e _ h1 he).trans h1.symm
theorem where_len24(x:WorldD)(a:Int):(whereL x a).length≤x.replicas.length:=by
 unfold whereL whereF
 rw[List.length_map]
 exact List.length_filter_le _ _
theorem where_in24{s:SiteD}{wl:List ServiceD}{x:WorldD}(h:validB s wl x=true){a v:Int}(hv:v∈whereL x a):0≤v∧v<x.hosts.length:=by
 have hp:=valid_parts h
 unfold whereL whereF at hv
 obtain⟨r,hr,rfl⟩:=List.mem_map.1 hv
 have h1:=List.all_eq_true.1 hp.2.2.2.2.2.2 r (List.mem_filter.1 hr).1
 simp only[replB,idx,Bool.and_eq_true,decide_eq_true_eq] at h1
 have:=hp.2.2.1
 omega
theorem srvA_at{l:List SrvV}{i:Nat}(h:i<l.length):srvA (l.map (·.x)) i=(l[i]).x:=by simp[srvA,h]
section
variable{w:World}{B:Nat}{u:SiteVs}{s:SiteD}{wv hv rv:Value}{l:List SrvV}{x:WorldD}
theorem ref17services(hB:B≤w.heap.size)(hs:SiteR w B u s)(hl:WishR w B wv l)(hx0:WorldR w B hv rv x)(hval:validB s (l.map (·.x)) x=true):CallsV Tryz.prog 51 #[.agg (siteC u s).toArray,.agg #[wv],.agg #[hv,rv]] w λv w'=>Ext w w'∧OwnB w' w.heap.size v (servicesB s (l.map (·.x)) x):=by
 have⟨hn,hx⟩:=bg0 w
 have hs':=hs.sk hB
 have hl':=hl.sk hB
 have hx':=hx0.sk hB
 have hS:=hs'.2.2.2.2.2.2
 have hW:=hl'.2.2
 have hX:=hx'.2.2.2.2
 have hbw:Bl B w w:=Bl.refl hB
 have lF:=hl.v.fk
 have hF:=hx0.h.fk
 have hh1:=hx0.h.one
 have hr1:=hx0.r.one
 have hvp:=valid_parts hval
 have h8:Hid (l.length≤8∧∀i (h:i<l.length),(l[i]).x.apart.length≤8∧(l[i]).x.near.length≤8):=by
  obtain⟨h1,h2⟩:=wish_lens hvp.2.1
  rw[List.length_map] at h1
  exact⟨h1,λi h=>h2 _ (List.mem_map.2 ⟨_,List.getElem_mem h,rfl⟩)⟩
 have hlen:Hid (x.replicas.length<1000000000000):=by have:=hvp.2.2.2.1;show _<_;omega
 have hwl24:Hid (∀a:Int,(whereL x a).length≤24):=λa=>Nat.le_trans (where_len24 x a) hvp.2.2.2.1
 have hwin:Hid (∀(a:Int) (j:Nat) (h:j<(whereL x a).length),0≤(whereL x a)[j]∧(whereL x a)[j]<x.hosts.length):=λa j h=>where_in24 hval (List.getElem_mem h)
 unfold servicesB
 clear hval hvp
 (refine callsV_of Tryz.func51 rfl KR KR ?_;rw[Tryz.results51])
 (repeat' first|(with_reducible first|exact⟨⟩|(refine gB ?_;intros)|refine gT ?_ ?_)|refine gs ?_|refine sxKeepM240 ?_)
 rename_i b4 w4 n4 k4 s4 q4 b5 w5 n5 k5 s5 q5 b6 w6 n6 k6 s6 q6
 have r6:=Ext.refl w6
 have hww:w.heap.size≤w6.heap.size:=FR
 obtain⟨c1,hc1⟩:∃c1,c1=leastC (l.map (·.x)) x:=⟨_,rfl⟩
 rw[←hc1]
 replace hc1:Hid _:=hc1
 refine loop_g l.length (λg0 k g w'=>g 8=.int .i64 k∧(g 3=g0 3∧g 4=g0 4∧g 5=g0 5)∧∃lv,g 7=lv∧Hid (Bl w6.heap.size w6 w'∧OwnB w' w6.heap.size lv (flagL c1 (λi=>⟨3,i,0⟩) [] k))) KR ?_ ?_ ?_
 ·(repeat' first|(with_reducible first|exact⟨⟩|(refine gB ?_;intros)|refine gT ?_ ?_)|refine gs ?_|refine sx ?_)
  exact⟨_,rfl,Bl.refl (Nat.le_refl _),Own.nil _ _ _ _⟩
 ·rintro k m g wk hk hlt nk ⟨hi,hf,lv,hlv,hp⟩
  simp(maxDischargeDepth:=3) only[U,↓reduceIte,Nat.reduceEqDiff, *] at hf
  obtain⟨hbl,hown⟩:=hp.out
  have sa1:=sa_of hbl.2
  have hlv1:=hown.one
  have hwj:IntKind.i64.wrap ((k:Int)+1)=((k+1:Nat):Int):=by have:=h8.out.1;rw[wrap_i64_id]<;>omega
  have huk:=λw' (h1:Bl B w w') (h3:B≤w'.heap.size)=>ref13Runs (svc:=(k:Int)) h3 (hX w' h1) hlen.out
  have hck:Hid (c1 k=decide (((whereL x (k:Int)).length:Int)<(l[k]).x.least)):=by rw[hc1.out];show leastC (l.map (·.x)) x k=_;rw[leastC,srvA_at hlt]
  have hownx:Hid (∀w',Ext wk w'→OwnB w' w6.heap.size lv (flagL c1 (λi=>⟨3,i,0⟩) [] k)):=λw' h=>hown.ext h
  have hfl:Hid ((flagL c1 (λi=>(⟨3,i,0⟩:BrokeD)) [] k).length<1000000000000):=by
   have:=flag_len (c:=c1) (f:=(λi=>(⟨3,i,0⟩:BrokeD))) (L0:=[]) k
   have:=h8.out.1
   show _<_
   simp only[List.length_nil] at *
   omega
  have rk:=Ext.refl wk
  generalize (whereL x (k:Int)).length=U at *
  clear hp hown
  (repeat' first|((with_reducible refine wpd_at 5 ?_);refine wpd_cmid (m:=12) KR KR KR rfl ?_)|(with_reducible first|exact⟨⟩|(refine gB ?_;intros)|refine gT ?_ ?_)|refine gs ?_|((with_reducible refine at_q 93 ?_);refine qret_k (λ_ _ _=>huk _ FR FR) ?_)|refine sxKeepM242 ?_)
  rename_i wq nq sq
  rw[←hck.out]
  refine add_k (B:=w6.heap.size) (is:=c1 k) FR (hownx.out _ FR) hfl.out λv2 w2 n2 s2 hO=>?_
  have hv2:=hO.one
  have hOx:Hid (∀w',Ext w2 w'→OwnB w' w6.heap.size v2 (flagL c1 (λi=>⟨3,i,0⟩) [] (k+1))):=λw' h=>hO.ext h
  have hbl2:Bl w6.heap.size w6 w2:=FR
  have r2:=Ext.refl w2
  clear hO
  (repeat' first|(with_reducible first|exact⟨⟩|(refine gB ?_;intros)|refine gT ?_ ?_)|refine gs ?_|refine sx ?_)
  refine next_g hk hlt ?_
  (repeat' first|(with_reducible first|exact⟨⟩|(refine gB ?_;intros)|refine gT ?_ ?_)|refine gs ?_|refine sx ?_)
  refine⟨_,rfl,?_⟩
  first|exact⟨FR,hOx.out _ FR⟩|exact hOx.out _ FR
 ·rintro g wk nk ⟨hi,hf,lv,hlv,hp⟩
  simp(maxDischargeDepth:=3) only[U,↓reduceIte,Nat.reduceEqDiff, *] at hf
  obtain⟨hbl,hown⟩:=hp.out
  have sa1:=sa_of hbl.2
  have hlv1:=hown.one
  have hnl:¬l.length<l.length:=Nat.lt_irrefl _
  have hO:Hid _:=hown
  have hbl1:Hid (Bl w6.heap.size w6 wk):=hbl
  have hL10:=flag_len (c:=c1) (f:=(λi=>(⟨3,i,0⟩:BrokeD))) (L0:=[]) l.length
  generalize flagL c1 (λi=>(⟨3,i,0⟩:BrokeD)) [] l.length=L1 at *
  have hL1:Hid (L1.length≤8):=by have:=h8.out.1;show _≤_;(try simp only[List.length_nil] at *);omega
  clear hp hown hL10
  (repeat' first|(with_reducible first|exact⟨⟩|(refine gB ?_;intros)|refine gT ?_ ?_)|refine gs ?_|refine sx ?_)
  obtain⟨c2,hc2⟩:∃c2:Nat→Nat→Bool,c2=spreadC s (l.map (·.x)) x:=⟨_,rfl⟩
  obtain⟨f2,hf2⟩:∃f2:Nat→Nat→BrokeD,f2=λi j=>⟨4,i,j⟩:=⟨_,rfl⟩
  obtain⟨m2,hm2⟩:∃m2:Nat→Nat,m2=λi:Nat=>(countF s (srvA (l.map (·.x)) i).domain).toNat:=⟨_,rfl⟩
  rw[←hc2,←hf2,←hm2]
  replace hc2:Hid (∀i j,c2 i j=spreadC s (l.map (·.x)) x i j):=λi j=>by rw[hc2]
  replace hf2:Hid (∀i j:Nat,f2 i j=⟨4,i,j⟩):=λi j=>by rw[hf2]
  replace hm2:Hid (∀i:Nat,m2 i=(countF s (srvA (l.map (·.x)) i).domain).toNat):=λi=>by rw[hm2]
  have hM:Hid (∀i,i<l.length→m2 i≤24):=λi hi=>by
   rw[hm2.out]
   have:=count_le24 (s:=s) (d:=(srvA (l.map (·.x)) i).domain);omega
  refine loop_g l.length (λg0 k g w'=>g 9=.int .i64 k∧(g 3=g0 3∧g 4=g0 4∧g 5=g0 5)∧∃lv,g 7=lv∧Hid (Bl w6.heap.size w6 w'∧OwnB w' w6.heap.size lv (nestL c2 f2 m2 L1 k))) KR ?_ ?_ ?_
  ·(repeat' first|(with_reducible first|exact⟨⟩|(refine gB ?_;intros)|refine gT ?_ ?_)|refine gs ?_|refine sx ?_)
   first|exact⟨_,rfl,hbl1.out,hO.out⟩|exact⟨_,rfl,hO.out⟩
  ·clear hi hlv hlv1 hO hbl1 hbl sa1 hnl
   rintro k m g wk hk hlt nk ⟨hi,hf,lv,hlv,hp⟩
   simp(maxDischargeDepth:=3) only[U,↓reduceIte,Nat.reduceEqDiff, *] at hf
   obtain⟨hbl,hown⟩:=hp.out
   have sa1:=sa_of hbl.2
   have hlv1:=hown.one
   have hwj:IntKind.i64.wrap ((k:Int)+1)=((k+1:Nat):Int):=by have:=h8.out.1;rw[wrap_i64_id]<;>omega
   have hnx:Hid (nestL c2 f2 m2 L1 (k+1)=flagL (c2 k) (f2 k) (nestL c2 f2 m2 L1 k) (m2 k)):=rfl
   have hLk:Hid ((nestL c2 f2 m2 L1 k).length≤200):=by
    have h1:=nest_len (c:=c2) (f:=f2) (m:=m2) (L0:=L1) (M:=24) k λi hi=>hM.out i (by omega)
    have h2:=hL1.out
    have h3:=h8.out.1
    show _≤_
    have h4:k * 24≤7 * 24:=Nat.mul_le_mul_right _ (by omega)
    omega
   have hmk:=hM.out k hlt
   generalize nestL c2 f2 m2 L1 k=Lk at *
   obtain⟨ck,hck⟩:∃ck,ck=c2 k:=⟨_,rfl⟩
   obtain⟨fk,hfk⟩:∃fk,fk=f2 k:=⟨_,rfl⟩
   obtain⟨mk,hmke⟩:∃mk,mk=m2 k:=⟨_,rfl⟩
   rw[←hck,←hfk,←hmke] at hnx
   rw[←hmke] at hmk
   have hcj:Hid (∀j:Nat,ck j=decide ((l[k]).x.spread<(((whereL x (k:Int)).filter λh=>domF s (l[k]).x.domain h == (j:Int)).length:Int))):=λj=>by rw[hck,hc2.out];show decide _=_;rw[srvA_at hlt]
   have hfj:Hid (∀j:Nat,fk j=⟨4,k,j⟩):=λj=>by rw[hfk,hf2.out]
   have hcnt:countF s (l[k]).x.domain=(mk:Int):=by rw[hmke,hm2.out];show _=(((countF s (srvA (l.map (·.x)) k).domain).toNat:Nat):Int);rw[srvA_at hlt,Int.toNat_of_nonneg count_le24.1]
   have hcc:=λw' (h1:Bl B w w') (h3:B≤w'.heap.size)=>ref12Count (d:=(l[k]).x.domain) h3 (hS w' h1)
   rw[hcnt] at hcc
   replace hcc:Hid _:=hcc
   have hid:=λw' (h1:Bl B w w') (h3:B≤w'.heap.size) (j:Nat)=>ref17inDomain (sv:=(k:Int)) (d:=(l[k]).x.domain) (n:=(j:Int)) h3 (hS w' h1) (hX w' h1) hlen.out
   replace hid:Hid _:=hid
   clear hcnt
   clear hck hfk hmke
   have hownx:Hid (∀w',Ext wk w'→OwnB w' w6.heap.size lv Lk):=λw' h=>hown.ext h
   have rk:=Ext.refl wk
   clear hp hown
   have ha1:=(hl.a _ (List.getElem_mem hlt)).one
   have hn1:=(hl.n _ (List.getElem_mem hlt)).one
   (repeat' first|(with_reducible first|exact⟨⟩|(refine gB ?_;intros)|refine gT ?_ ?_)|refine gs ?_|refine sxKeepM242 ?_)
   rename_i b10 wb nb kb sb qb wc nc kc sc
   have hbb:Blk wc b10 61 (srvC l[k]):=kc.2.1 _ FR
   have hwc:Hid (Bl w6.heap.size w6 wc∧OwnB wc w6.heap.size lv Lk):=⟨FR,hownx.out _ FR⟩
   skip
   refine loop_g mk (λg0 j g w'=>g 11=.int .i64 j∧(g 3=g0 3∧g 4=g0 4∧g 5=g0 5∧g 9=g0 9∧g 10=g0 10)∧∃lv,g 7=lv∧Hid (Bl w6.heap.size w6 w'∧OwnB w' w6.heap.size lv (flagL ck fk Lk j)∧Blk w' b10 61 (srvC l[k]))) KR ?_ ?_ ?_
   ·(repeat' first|(with_reducible first|exact⟨⟩|(refine gB ?_;intros)|refine gT ?_ ?_)|refine gs ?_|refine sx ?_)
    first|exact⟨_,rfl,hwc.out.1,hwc.out.2,hbb⟩|exact⟨_,rfl,hwc.out.2,hbb⟩|exact⟨_,rfl,hwc.out.2⟩
   ·clear hlv hlv1 hbl sa1 hownx rk hwc hbb
    rintro j mj g wj hj hjt nj ⟨hij,hfr,lv,hlv,hpj⟩
    simp(maxDischargeDepth:=3) only[U,↓reduceIte,Nat.reduceEqDiff, *] at hfr
    obtain⟨hbl,hown,hbx⟩:=hpj.out
    have sa1:=sa_of hbl.2
    have hlv1:=hown.one
    have rj:=Ext.refl wj
    have hwj2:IntKind.i64.wrap ((j:Int)+1)=((j+1:Nat):Int):=by rw[wrap_i64_id]<;>omega
    have hjI:((j:Nat):Int)<((mk:Nat):Int):=by omega
    have hownx:Hid (∀w',Ext wj w'→OwnB w' w6.heap.size lv (flagL ck fk Lk j)):=λw' h=>hown.ext h
    have hfl:Hid ((flagL ck fk Lk j).length<1000000000000):=by
     have h1:=flag_len (c:=ck) (f:=fk) (L0:=Lk) j
     have h2:=hLk.out
     show _<_
     omega
    have hnf:Hid (flagL ck fk Lk (j+1)=addB (ck j) (fk j) (flagL ck fk Lk j)):=rfl
    have kbx:=hbx.bk
    have hcx:=λw' (h1:Bl B w w') (h3:B≤w'.heap.size)=>hid.out w' h1 h3 j
    have e1:=hcj.out j
    have e2:=hfj.out j
    rw[e1,e2] at hnf
    clear e1 e2 hpj hown hbx
    generalize (((whereL x (k:Int)).filter λh=>domF s (l[k]).x.domain h == (j:Int)).length)=U at *
    (repeat' first|((with_reducible refine wpd_at 13 ?_);refine wpd_cmid (m:=13) KR KR KR rfl ?_)|(with_reducible first|exact⟨⟩|(refine gB ?_;intros)|refine gT ?_ ?_)|refine gs ?_|((with_reducible refine at_f 94 ?_);refine ret_k (hcc.out _ FR FR) λ_ _ _=>?_)|((with_reducible refine at_q 95 ?_);refine qret_k (λ_ _ _=>hcx _ FR FR) ?_)|refine sxKeepM243 ?_)
    refine add_kb (B:=w6.heap.size) FR (hownx.out _ FR) hfl.out λv2 w2 n2 s2 hO hK=>?_
    have hb2:Hid (Blk w2 b10 61 (srvC l[k])):=hK.out _ _ _ (kbx.2.1 _ FR) (by decide)
    rw[←hnf.out] at hO
    have hv2:=hO.one
    have hOx:Hid (∀w',Ext w2 w'→OwnB w' w6.heap.size v2 (flagL ck fk Lk (j+1))):=λw' h=>hO.ext h
    have hbl2:Bl w6.heap.size w6 w2:=FR
    have r2:=Ext.refl w2
    clear hO
    (repeat' first|(with_reducible first|exact⟨⟩|(refine gB ?_;intros)|refine gT ?_ ?_)|refine gs ?_|refine sx ?_)
    refine next_g hj hjt ?_
    (repeat' first|(with_reducible first|exact⟨⟩|(refine gB ?_;intros)|refine gT ?_ ?_)|refine gs ?_|refine sx ?_)
    refine⟨_,rfl,?_⟩
    first|exact⟨FR,hOx.out _ FR,hb2.out.ext FR⟩|exact⟨hOx.out _ FR,hb2.out.ext FR⟩
   ·clear hlv hlv1 hbl sa1 hownx rk hwc hbb
    rintro g wj nj ⟨hij,hfr,lv,hlv,hpj⟩
    simp(maxDischargeDepth:=3) only[U,↓reduceIte,Nat.reduceEqDiff, *] at hfr
    obtain⟨hbl,hown,hbx⟩:=hpj.out
    have sa1:=sa_of hbl.2
    have hlv1:=hown.one
    have rj:=Ext.refl wj
    have hnl2:¬(mk:Nat)<mk:=Nat.lt_irrefl _
    have kbx:=hbx.bk
    rw[←hnx.out] at hown
    have hOx:Hid (∀w',Ext wj w'→OwnB w' w6.heap.size lv (nestL c2 f2 m2 L1 (k+1))):=λw' h=>hown.ext h
    clear hpj hown hbx
    (repeat' first|(with_reducible first|exact⟨⟩|(refine gB ?_;intros)|refine gT ?_ ?_)|refine gs ?_|((with_reducible refine at_f 94 ?_);refine ret_k (hcc.out _ FR FR) λ_ _ _=>?_)|refine sxKeepM243 ?_)
    refine next_g hk hlt ?_
    (repeat' first|(with_reducible first|exact⟨⟩|(refine gB ?_;intros)|refine gT ?_ ?_)|refine gs ?_|refine sx ?_)
    refine⟨_,rfl,?_⟩
    first|exact⟨FR,hOx.out _ FR⟩|exact hOx.out _ FR
  ·clear hi hlv hlv1 hO hbl1 hbl sa1 hnl
   rintro g wk nk ⟨hi,hf,lv,hlv,hp⟩
   simp(maxDischargeDepth:=3) only[U,↓reduceIte,Nat.reduceEqDiff, *] at hf
   obtain⟨hbl,hown⟩:=hp.out
   have sa1:=sa_of hbl.2
   have hlv1:=hown.one
   have hnl:¬l.length<l.length:=Nat.lt_irrefl _
   have hO:Hid _:=hown
   have hbl1:Hid (Bl w6.heap.size w6 wk):=hbl
   have hL0:=nest_len (c:=c2) (f:=f2) (m:=m2) (L0:=L1) (M:=24) l.length λi hi=>hM.out i hi
   generalize nestL c2 f2 m2 L1 l.length=L2 at *
   replace hL1:Hid (L2.length≤200):=by have h1:=hL1.out;have h2:=h8.out.1;have h4:l.length * 24≤8 * 24:=Nat.mul_le_mul_right _ h2;show _≤_;omega
   clear hp hown hL0 hM hc2 hf2 hm2
   (repeat' first|(with_reducible first|exact⟨⟩|(refine gB ?_;intros)|refine gT ?_ ?_)|refine gs ?_|refine sx ?_)
   obtain⟨c3,hc3⟩:∃c3:Nat→Nat→Bool,c3=apartC (l.map (·.x)) x:=⟨_,rfl⟩
   obtain⟨f3,hf3⟩:∃f3:Nat→Nat→BrokeD,f3=λi j=>⟨5,i,(srvA (l.map (·.x)) i).apart.getD j 0⟩:=⟨_,rfl⟩
   obtain⟨m3,hm3⟩:∃m3:Nat→Nat,m3=λi:Nat=>(srvA (l.map (·.x)) i).apart.length:=⟨_,rfl⟩
   rw[←hc3,←hf3,←hm3]
   replace hc3:Hid (∀i j,c3 i j=apartC (l.map (·.x)) x i j):=λi j=>by rw[hc3]
   replace hf3:Hid (∀i j:Nat,f3 i j=⟨5,i,(srvA (l.map (·.x)) i).apart.getD j 0⟩):=λi j=>by rw[hf3]
   replace hm3:Hid (∀i:Nat,m3 i=(srvA (l.map (·.x)) i).apart.length):=λi=>by rw[hm3]
   have hM:Hid (∀i,i<l.length→m3 i≤24):=λi hi=>by
    rw[hm3.out]
    rw[srvA_at hi];exact Nat.le_trans (h8.out.2 i hi).1 (by decide)
   refine loop_g l.length (λg0 k g w'=>g 12=.int .i64 k∧(g 3=g0 3∧g 4=g0 4∧g 5=g0 5)∧∃lv,g 7=lv∧Hid (Bl w6.heap.size w6 w'∧OwnB w' w6.heap.size lv (nestL c3 f3 m3 L2 k))) KR ?_ ?_ ?_
   ·(repeat' first|(with_reducible first|exact⟨⟩|(refine gB ?_;intros)|refine gT ?_ ?_)|refine gs ?_|refine sx ?_)
    first|exact⟨_,rfl,hbl1.out,hO.out⟩|exact⟨_,rfl,hO.out⟩
   ·clear hi hlv hlv1 hO hbl1 hbl sa1 hnl
    rintro k m g wk hk hlt nk ⟨hi,hf,lv,hlv,hp⟩
    simp(maxDischargeDepth:=3) only[U,↓reduceIte,Nat.reduceEqDiff, *] at hf
    obtain⟨hbl,hown⟩:=hp.out
    have sa1:=sa_of hbl.2
    have hlv1:=hown.one
    have hwj:IntKind.i64.wrap ((k:Int)+1)=((k+1:Nat):Int):=by have:=h8.out.1;rw[wrap_i64_id]<;>omega
    have hnx:Hid (nestL c3 f3 m3 L2 (k+1)=flagL (c3 k) (f3 k) (nestL c3 f3 m3 L2 k) (m3 k)):=rfl
    have hLk:Hid ((nestL c3 f3 m3 L2 k).length≤392):=by
     have h1:=nest_len (c:=c3) (f:=f3) (m:=m3) (L0:=L2) (M:=24) k λi hi=>hM.out i (by omega)
     have h2:=hL1.out
     have h3:=h8.out.1
     show _≤_
     have h4:k * 24≤7 * 24:=Nat.mul_le_mul_right _ (by omega)
     omega
    have hmk:=hM.out k hlt
    generalize nestL c3 f3 m3 L2 k=Lk at *
    obtain⟨ck,hck⟩:∃ck,ck=c3 k:=⟨_,rfl⟩
    obtain⟨fk,hfk⟩:∃fk,fk=f3 k:=⟨_,rfl⟩
    obtain⟨mk,hmke⟩:∃mk,mk=m3 k:=⟨_,rfl⟩
    rw[←hck,←hfk,←hmke] at hnx
    rw[←hmke] at hmk
    have hmk2:mk=(l[k]).x.apart.length:=by rw[hmke,hm3.out];show(srvA (l.map (·.x)) k).apart.length=_;rw[srvA_at hlt]
    have hcj:Hid (∀j (h:j<(l[k]).x.apart.length),ck j=(whereL x (k:Int)).any λh=>hasB x.replicas ⟨(l[k]).x.apart[j],h⟩):=λj h=>by rw[hck,hc3.out];show((whereL x k).any λh=>hasB x.replicas ⟨((srvA (l.map (·.x)) k).apart.getD j 0),h⟩)=_;rw[srvA_at hlt,List.getD_eq_getElem?_getD,List.getElem?_eq_getElem h];rfl
    have hfj:Hid (∀j (h:j<(l[k]).x.apart.length),fk j=⟨5,k,(l[k]).x.apart[j]⟩):=λj h=>by rw[hfk,hf3.out];show(⟨5,k,((srvA (l.map (·.x)) k).apart.getD j 0)⟩:BrokeD)=_;rw[srvA_at hlt,List.getD_eq_getElem?_getD,List.getElem?_eq_getElem h];rfl
    have hsh:=λw' (h1:Bl B w w') (h3:B≤w'.heap.size) (b:Int)=>ref17share (a:=(k:Int)) (b:=b) h3 (hX w' h1) hlen.out
    replace hsh:Hid _:=hsh
    have KA:=(hl.a _ (List.getElem_mem hlt)).k hB
    clear hck hfk hmke
    have hownx:Hid (∀w',Ext wk w'→OwnB w' w6.heap.size lv Lk):=λw' h=>hown.ext h
    have rk:=Ext.refl wk
    clear hp hown
    have ha1:=(hl.a _ (List.getElem_mem hlt)).one
    have hn1:=(hl.n _ (List.getElem_mem hlt)).one
    (repeat' first|(with_reducible first|exact⟨⟩|(refine gB ?_;intros)|refine gT ?_ ?_)|refine gs ?_|refine sxKeepM242 ?_)
    have hwc:Hid (Bl w6.heap.size w6 wk∧OwnB wk w6.heap.size lv Lk):=⟨FR,hownx.out _ FR⟩
    subst hmk2
    refine loop_g (l[k]).x.apart.length (λg0 j g w'=>g 14=.int .i64 j∧(g 3=g0 3∧g 4=g0 4∧g 5=g0 5∧g 12=g0 12∧g 13=g0 13)∧∃lv,g 7=lv∧Hid (Bl w6.heap.size w6 w'∧OwnB w' w6.heap.size lv (flagL ck fk Lk j))) KR ?_ ?_ ?_
    ·(repeat' first|(with_reducible first|exact⟨⟩|(refine gB ?_;intros)|refine gT ?_ ?_)|refine gs ?_|refine sx ?_)
     first|exact⟨_,rfl,hwc.out⟩|exact⟨_,rfl,hwc.out.2⟩
    ·clear hlv hlv1 hbl sa1 hownx rk hwc
     rintro j mj g wj hj hjt nj ⟨hij,hfr,lv,hlv,hpj⟩
     simp(maxDischargeDepth:=3) only[U,↓reduceIte,Nat.reduceEqDiff, *] at hfr
     obtain⟨hbl,hown⟩:=hpj.out
     have sa1:=sa_of hbl.2
     have hlv1:=hown.one
     have rj:=Ext.refl wj
     have hwj2:IntKind.i64.wrap ((j:Int)+1)=((j+1:Nat):Int):=by rw[wrap_i64_id]<;>omega
     have hjI:((j:Nat):Int)<(((l[k]).x.apart.length:Nat):Int):=by omega
     have hownx:Hid (∀w',Ext wj w'→OwnB w' w6.heap.size lv (flagL ck fk Lk j)):=λw' h=>hown.ext h
     have hfl:Hid ((flagL ck fk Lk j).length<1000000000000):=by
      have h1:=flag_len (c:=ck) (f:=fk) (L0:=Lk) j
      have h2:=hLk.out
      show _<_
      omega
     have hnf:Hid (flagL ck fk Lk (j+1)=addB (ck j) (fk j) (flagL ck fk Lk j)):=rfl
     have e1:=hcj.out j hjt
     have e2:=hfj.out j hjt
     rw[e1,e2] at hnf
     clear e1 e2 hpj hown
     have hcx:=λw' (h1:Bl B w w') (h3:B≤w'.heap.size)=>hsh.out w' h1 h3 (l[k]).x.apart[j]
     generalize ((whereL x (k:Int)).any λh=>hasB x.replicas ⟨(l[k]).x.apart[j],h⟩)=U at *
     (repeat' first|((with_reducible refine wpd_at 21 ?_);refine wpd_cmid (m:=13) KR KR KR rfl ?_)|(with_reducible first|exact⟨⟩|(refine gB ?_;intros)|refine gT ?_ ?_)|refine gs ?_|((with_reducible refine at_q 96 ?_);refine qret_k (λ_ _ _=>hcx _ FR FR) ?_)|refine sxKeepM242 ?_)
     refine add_k (B:=w6.heap.size) FR (hownx.out _ FR) hfl.out λv2 w2 n2 s2 hO=>?_
     rw[←hnf.out] at hO
     have hv2:=hO.one
     have hOx:Hid (∀w',Ext w2 w'→OwnB w' w6.heap.size v2 (flagL ck fk Lk (j+1))):=λw' h=>hO.ext h
     have hbl2:Bl w6.heap.size w6 w2:=FR
     have r2:=Ext.refl w2
     clear hO
     (repeat' first|(with_reducible first|exact⟨⟩|(refine gB ?_;intros)|refine gT ?_ ?_)|refine gs ?_|refine sx ?_)
     refine next_g hj hjt ?_
     (repeat' first|(with_reducible first|exact⟨⟩|(refine gB ?_;intros)|refine gT ?_ ?_)|refine gs ?_|refine sx ?_)
     refine⟨_,rfl,?_⟩
     first|exact⟨FR,hOx.out _ FR⟩|exact hOx.out _ FR
    ·clear hlv hlv1 hbl sa1 hownx rk hwc
     rintro g wj nj ⟨hij,hfr,lv,hlv,hpj⟩
     simp(maxDischargeDepth:=3) only[U,↓reduceIte,Nat.reduceEqDiff, *] at hfr
     obtain⟨hbl,hown⟩:=hpj.out
     have sa1:=sa_of hbl.2
     have hlv1:=hown.one
     have rj:=Ext.refl wj
     have hnl2:¬((l[k]).x.apart.length:Nat)<(l[k]).x.apart.length:=Nat.lt_irrefl _
     rw[←hnx.out] at hown
     have hOx:Hid (∀w',Ext wj w'→OwnB w' w6.heap.size lv (nestL c3 f3 m3 L2 (k+1))):=λw' h=>hown.ext h
     clear hpj hown
     (repeat' first|(with_reducible first|exact⟨⟩|(refine gB ?_;intros)|refine gT ?_ ?_)|refine gs ?_|refine sx ?_)
     refine next_g hk hlt ?_
     (repeat' first|(with_reducible first|exact⟨⟩|(refine gB ?_;intros)|refine gT ?_ ?_)|refine gs ?_|refine sx ?_)
     refine⟨_,rfl,?_⟩
     first|exact⟨FR,hOx.out _ FR⟩|exact hOx.out _ FR
   ·clear hi hlv hlv1 hO hbl1 hbl sa1 hnl
    rintro g wk nk ⟨hi,hf,lv,hlv,hp⟩
    simp(maxDischargeDepth:=3) only[U,↓reduceIte,Nat.reduceEqDiff, *] at hf
    obtain⟨hbl,hown⟩:=hp.out
    have sa1:=sa_of hbl.2
    have hlv1:=hown.one
    have hnl:¬l.length<l.length:=Nat.lt_irrefl _
    have hO:Hid _:=hown
    have hbl1:Hid (Bl w6.heap.size w6 wk):=hbl
    have hL0:=nest_len (c:=c3) (f:=f3) (m:=m3) (L0:=L2) (M:=24) l.length λi hi=>hM.out i hi
    generalize nestL c3 f3 m3 L2 l.length=L3 at *
    replace hL1:Hid (L3.length≤392):=by have h1:=hL1.out;have h2:=h8.out.1;have h4:l.length * 24≤8 * 24:=Nat.mul_le_mul_right _ h2;show _≤_;omega
    clear hp hown hL0 hM hc3 hf3 hm3
    (repeat' first|(with_reducible first|exact⟨⟩|(refine gB ?_;intros)|refine gT ?_ ?_)|refine gs ?_|refine sx ?_)
    obtain⟨c4,hc4⟩:∃c4:Nat→Nat→Bool,c4=nearC s (l.map (·.x)) x:=⟨_,rfl⟩
    obtain⟨f4,hf4⟩:∃f4:Nat→Nat→BrokeD,f4=λi j=>⟨6,i,((srvA (l.map (·.x)) i).near.getD j ⟨0,0⟩).service⟩:=⟨_,rfl⟩
    obtain⟨m4,hm4⟩:∃m4:Nat→Nat,m4=λi:Nat=>(srvA (l.map (·.x)) i).near.length:=⟨_,rfl⟩
    rw[←hc4,←hf4,←hm4]
    replace hc4:Hid (∀i j,c4 i j=nearC s (l.map (·.x)) x i j):=λi j=>by rw[hc4]
    replace hf4:Hid (∀i j:Nat,f4 i j=⟨6,i,((srvA (l.map (·.x)) i).near.getD j ⟨0,0⟩).service⟩):=λi j=>by rw[hf4]
    replace hm4:Hid (∀i:Nat,m4 i=(srvA (l.map (·.x)) i).near.length):=λi=>by rw[hm4]
    have hM:Hid (∀i,i<l.length→m4 i≤24):=λi hi=>by
     rw[hm4.out]
     rw[srvA_at hi];exact Nat.le_trans (h8.out.2 i hi).2 (by decide)
    refine loop_g l.length (λg0 k g w'=>g 15=.int .i64 k∧(g 3=g0 3∧g 4=g0 4∧g 5=g0 5)∧∃lv,g 7=lv∧Hid (Bl w6.heap.size w6 w'∧OwnB w' w6.heap.size lv (nestL c4 f4 m4 L3 k))) KR ?_ ?_ ?_
    ·(repeat' first|(with_reducible first|exact⟨⟩|(refine gB ?_;intros)|refine gT ?_ ?_)|refine gs ?_|refine sx ?_)
     first|exact⟨_,rfl,hbl1.out,hO.out⟩|exact⟨_,rfl,hO.out⟩
    ·clear hi hlv hlv1 hO hbl1 hbl sa1 hnl
     rintro k m g wk hk hlt nk ⟨hi,hf,lv,hlv,hp⟩
     simp(maxDischargeDepth:=3) only[U,↓reduceIte,Nat.reduceEqDiff, *] at hf
     obtain⟨hbl,hown⟩:=hp.out
     have sa1:=sa_of hbl.2
     have hlv1:=hown.one
     have hwj:IntKind.i64.wrap ((k:Int)+1)=((k+1:Nat):Int):=by have:=h8.out.1;rw[wrap_i64_id]<;>omega
     have hnx:Hid (nestL c4 f4 m4 L3 (k+1)=flagL (c4 k) (f4 k) (nestL c4 f4 m4 L3 k) (m4 k)):=rfl
     have hLk:Hid ((nestL c4 f4 m4 L3 k).length≤584):=by
      have h1:=nest_len (c:=c4) (f:=f4) (m:=m4) (L0:=L3) (M:=24) k λi hi=>hM.out i (by omega)
      have h2:=hL1.out
      have h3:=h8.out.1
      show _≤_
      have h4:k * 24≤7 * 24:=Nat.mul_le_mul_right _ (by omega)
      omega
     have hmk:=hM.out k hlt
     generalize nestL c4 f4 m4 L3 k=Lk at *
     obtain⟨ck,hck⟩:∃ck,ck=c4 k:=⟨_,rfl⟩
     obtain⟨fk,hfk⟩:∃fk,fk=f4 k:=⟨_,rfl⟩
     obtain⟨mk,hmke⟩:∃mk,mk=m4 k:=⟨_,rfl⟩
     rw[←hck,←hfk,←hmke] at hnx
     rw[←hmke] at hmk
     have hmk2:mk=(l[k]).x.near.length:=by rw[hmke,hm4.out];show(srvA (l.map (·.x)) k).near.length=_;rw[srvA_at hlt]
     have hcj:Hid (∀j (h:j<(l[k]).x.near.length),ck j=lonelyB s x k (l[k]).x.near[j]):=λj h=>by rw[hck,hc4.out];show lonelyB s x k ((srvA (l.map (·.x)) k).near.getD j ⟨0,0⟩)=_;rw[srvA_at hlt,List.getD_eq_getElem?_getD,List.getElem?_eq_getElem h];rfl
     have hfj:Hid (∀j (h:j<(l[k]).x.near.length),fk j=⟨6,k,((l[k]).x.near[j]).service⟩):=λj h=>by rw[hfk,hf4.out];show(⟨6,k,((srvA (l.map (·.x)) k).near.getD j ⟨0,0⟩).service⟩:BrokeD)=_;rw[srvA_at hlt,List.getD_eq_getElem?_getD,List.getElem?_eq_getElem h];rfl
     have hsh:=λw' (h1:Bl B w w') (h3:B≤w'.heap.size) (b:NearD)=>ref17lonely (a:=(k:Int)) (n:=b) h3 (hS w' h1) (hX w' h1) hlen.out
     replace hsh:Hid _:=hsh
     have KA:=(hl.n _ (List.getElem_mem hlt)).k hB
     have KF:=(hl.n _ (List.getElem_mem hlt)).fk
     clear hck hfk hmke
     have hownx:Hid (∀w',Ext wk w'→OwnB w' w6.heap.size lv Lk):=λw' h=>hown.ext h
     have rk:=Ext.refl wk
     clear hp hown
     have ha1:=(hl.a _ (List.getElem_mem hlt)).one
     have hn1:=(hl.n _ (List.getElem_mem hlt)).one
     (repeat' first|(with_reducible first|exact⟨⟩|(refine gB ?_;intros)|refine gT ?_ ?_)|refine gs ?_|refine sxKeepM242 ?_)
     have hwc:Hid (Bl w6.heap.size w6 wk∧OwnB wk w6.heap.size lv Lk):=⟨FR,hownx.out _ FR⟩
     subst hmk2
     refine loop_g (l[k]).x.near.length (λg0 j g w'=>g 17=.int .i64 j∧(g 3=g0 3∧g 4=g0 4∧g 5=g0 5∧g 15=g0 15∧g 16=g0 16)∧∃lv,g 7=lv∧Hid (Bl w6.heap.size w6 w'∧OwnB w' w6.heap.size lv (flagL ck fk Lk j))) KR ?_ ?_ ?_
     ·(repeat' first|(with_reducible first|exact⟨⟩|(refine gB ?_;intros)|refine gT ?_ ?_)|refine gs ?_|refine sx ?_)
      first|exact⟨_,rfl,hwc.out⟩|exact⟨_,rfl,hwc.out.2⟩
     ·clear hlv hlv1 hbl sa1 hownx rk hwc
      rintro j mj g wj hj hjt nj ⟨hij,hfr,lv,hlv,hpj⟩
      simp(maxDischargeDepth:=3) only[U,↓reduceIte,Nat.reduceEqDiff, *] at hfr
      obtain⟨hbl,hown⟩:=hpj.out
      have sa1:=sa_of hbl.2
      have hlv1:=hown.one
      have rj:=Ext.refl wj
      have hwj2:IntKind.i64.wrap ((j:Int)+1)=((j+1:Nat):Int):=by rw[wrap_i64_id]<;>omega
      have hjI:((j:Nat):Int)<(((l[k]).x.near.length:Nat):Int):=by omega
      have hownx:Hid (∀w',Ext wj w'→OwnB w' w6.heap.size lv (flagL ck fk Lk j)):=λw' h=>hown.ext h
      have hfl:Hid ((flagL ck fk Lk j).length<1000000000000):=by
       have h1:=flag_len (c:=ck) (f:=fk) (L0:=Lk) j
       have h2:=hLk.out
       show _<_
       omega
      have hnf:Hid (flagL ck fk Lk (j+1)=addB (ck j) (fk j) (flagL ck fk Lk j)):=rfl
      have e1:=hcj.out j hjt
      have e2:=hfj.out j hjt
      rw[e1,e2] at hnf
      clear e1 e2 hpj hown
      have hcx:=λw' (h1:Bl B w w') (h3:B≤w'.heap.size)=>hsh.out w' h1 h3 (l[k]).x.near[j]
      generalize lonelyB s x (k:Int) (l[k]).x.near[j]=U at *
      (repeat' first|((with_reducible refine wpd_at 29 ?_);refine wpd_cmid (m:=15) KR KR KR rfl ?_)|(with_reducible first|exact⟨⟩|(refine gB ?_;intros)|refine gT ?_ ?_)|refine gs ?_|((with_reducible refine at_q 97 ?_);refine qret_k (λ_ _ _=>hcx _ FR FR) ?_)|simp(maxDischargeDepth:=3) only[↓X,↓Y,↓Q,S1,↓reduceIte,Nat.reduceEqDiff,Nat.reduceAdd,Int.reduceLT,Int.reduceLE,Int.reduceNeg,Int.reduceBEq,Int.reduceBNe,Int.reduceEq,Nat.reduceLeDiff,Nat.reduceMul,Nat.reduceLT, *,siteC,srvV,srvC,nearV]|simp(singlePass:=true) (maxDischargeDepth:=99) only[*,S2,Nat.reduceLT,siteC,srvV,srvC,nearV])
      refine add_k (B:=w6.heap.size) FR (hownx.out _ FR) hfl.out λv2 w2 n2 s2 hO=>?_
      rw[←hnf.out] at hO
      have hv2:=hO.one
      have hOx:Hid (∀w',Ext w2 w'→OwnB w' w6.heap.size v2 (flagL ck fk Lk (j+1))):=λw' h=>hO.ext h
      have hbl2:Bl w6.heap.size w6 w2:=FR
      have r2:=Ext.refl w2
      clear hO
      (repeat' first|(with_reducible first|exact⟨⟩|(refine gB ?_;intros)|refine gT ?_ ?_)|refine gs ?_|refine sx ?_)
      refine next_g hj hjt ?_
      (repeat' first|(with_reducible first|exact⟨⟩|(refine gB ?_;intros)|refine gT ?_ ?_)|refine gs ?_|refine sx ?_)
      refine⟨_,rfl,?_⟩
      first|exact⟨FR,hOx.out _ FR⟩|exact hOx.out _ FR
     ·clear hlv hlv1 hbl sa1 hownx rk hwc
      rintro g wj nj ⟨hij,hfr,lv,hlv,hpj⟩
      simp(maxDischargeDepth:=3) only[U,↓reduceIte,Nat.reduceEqDiff, *] at hfr
      obtain⟨hbl,hown⟩:=hpj.out
      have sa1:=sa_of hbl.2
      have hlv1:=hown.one
      have rj:=Ext.refl wj
      have hnl2:¬((l[k]).x.near.length:Nat)<(l[k]).x.near.length:=Nat.lt_irrefl _
      rw[←hnx.out] at hown
      have hOx:Hid (∀w',Ext wj w'→OwnB w' w6.heap.size lv (nestL c4 f4 m4 L3 (k+1))):=λw' h=>hown.ext h
      clear hpj hown
      (repeat' first|(with_reducible first|exact⟨⟩|(refine gB ?_;intros)|refine gT ?_ ?_)|refine gs ?_|refine sx ?_)
      refine next_g hk hlt ?_
      (repeat' first|(with_reducible first|exact⟨⟩|(refine gB ?_;intros)|refine gT ?_ ?_)|refine gs ?_|refine sx ?_)
      refine⟨_,rfl,?_⟩
      first|exact⟨FR,hOx.out _ FR⟩|exact hOx.out _ FR
    ·clear hi hlv hlv1 hO hbl1 hbl sa1 hnl
     rintro g wk nk ⟨hi,hf,lv,hlv,hp⟩
     simp(maxDischargeDepth:=3) only[U,↓reduceIte,Nat.reduceEqDiff, *] at hf
     obtain⟨hbl,hown⟩:=hp.out
     have sa1:=sa_of hbl.2
     have hlv1:=hown.one
     have hnl:¬l.length<l.length:=Nat.lt_irrefl _
     have hO:Hid _:=hown
     have hbl1:Hid (Bl w6.heap.size w6 wk):=hbl
     have hL0:=nest_len (c:=c4) (f:=f4) (m:=m4) (L0:=L3) (M:=24) l.length λi hi=>hM.out i hi
     generalize nestL c4 f4 m4 L3 l.length=L4 at *
     replace hL1:Hid (L4.length≤584):=by have h1:=hL1.out;have h2:=h8.out.1;have h4:l.length * 24≤8 * 24:=Nat.mul_le_mul_right _ h2;show _≤_;omega
     clear hp hown hL0 hM hc4 hf4 hm4
     (repeat' first|(with_reducible first|exact⟨⟩|(refine gB ?_;intros)|refine gT ?_ ?_)|refine gs ?_|refine sx ?_)
     obtain⟨c5,hc5⟩:∃c5:Nat→Nat→Bool,c5=firmC (l.map (·.x)) x:=⟨_,rfl⟩
     obtain⟨f5,hf5⟩:∃f5:Nat→Nat→BrokeD,f5=λi j=>⟨7,i,(whereL x i).getD j 0⟩:=⟨_,rfl⟩
     obtain⟨m5,hm5⟩:∃m5:Nat→Nat,m5=λi:Nat=>(whereL x i).length:=⟨_,rfl⟩
     rw[←hc5,←hf5,←hm5]
     replace hc5:Hid (∀i j,c5 i j=firmC (l.map (·.x)) x i j):=λi j=>by rw[hc5]
     replace hf5:Hid (∀i j:Nat,f5 i j=⟨7,i,(whereL x i).getD j 0⟩):=λi j=>by rw[hf5]
     replace hm5:Hid (∀i:Nat,m5 i=(whereL x i).length):=λi=>by rw[hm5]
     have hM:Hid (∀i,i<l.length→m5 i≤24):=λi hi=>by
      rw[hm5.out]
      exact hwl24.out _
     refine loop_g l.length (λg0 k g w'=>g 18=.int .i64 k∧(g 4=g0 4∧g 5=g0 5)∧∃lv,g 7=lv∧Hid (Bl w6.heap.size w6 w'∧OwnB w' w6.heap.size lv (nestL c5 f5 m5 L4 k))) KR ?_ ?_ ?_
     ·(repeat' first|(with_reducible first|exact⟨⟩|(refine gB ?_;intros)|refine gT ?_ ?_)|refine gs ?_|refine sx ?_)
      first|exact⟨_,rfl,hbl1.out,hO.out⟩|exact⟨_,rfl,hO.out⟩
     ·clear hi hlv hlv1 hO hbl1 hbl sa1 hnl
      rintro k m g wk hk hlt nk ⟨hi,hf,lv,hlv,hp⟩
      simp(maxDischargeDepth:=3) only[U,↓reduceIte,Nat.reduceEqDiff, *] at hf
      obtain⟨hbl,hown⟩:=hp.out
      have sa1:=sa_of hbl.2
      have hlv1:=hown.one
      have hwj:IntKind.i64.wrap ((k:Int)+1)=((k+1:Nat):Int):=by have:=h8.out.1;rw[wrap_i64_id]<;>omega
      have hnx:Hid (nestL c5 f5 m5 L4 (k+1)=flagL (c5 k) (f5 k) (nestL c5 f5 m5 L4 k) (m5 k)):=rfl
      have hLk:Hid ((nestL c5 f5 m5 L4 k).length≤776):=by
       have h1:=nest_len (c:=c5) (f:=f5) (m:=m5) (L0:=L4) (M:=24) k λi hi=>hM.out i (by omega)
       have h2:=hL1.out
       have h3:=h8.out.1
       show _≤_
       have h4:k * 24≤7 * 24:=Nat.mul_le_mul_right _ (by omega)
       omega
      have hmk:=hM.out k hlt
      generalize nestL c5 f5 m5 L4 k=Lk at *
      obtain⟨ck,hck⟩:∃ck,ck=c5 k:=⟨_,rfl⟩
      obtain⟨fk,hfk⟩:∃fk,fk=f5 k:=⟨_,rfl⟩
      obtain⟨mk,hmke⟩:∃mk,mk=m5 k:=⟨_,rfl⟩
      rw[←hck,←hfk,←hmke] at hnx
      rw[←hmke] at hmk
      have hmk2:mk=(whereL x (k:Int)).length:=by rw[hmke,hm5.out]
      have hcj:Hid (∀j (h:j<(whereL x (k:Int)).length),ck j=decide ((hostAt x (whereL x (k:Int))[j]).firmware<(l[k]).x.firmware)):=λj h=>by rw[hck,hc5.out];show decide ((hostAt x ((whereL x k).getD j 0)).firmware<(srvA (l.map (·.x)) k).firmware)=_;rw[srvA_at hlt,List.getD_eq_getElem?_getD,List.getElem?_eq_getElem h];rfl
      have hfj:Hid (∀j (h:j<(whereL x (k:Int)).length),fk j=⟨7,k,(whereL x (k:Int))[j]⟩):=λj h=>by rw[hfk,hf5.out];show(⟨7,k,((whereL x k).getD j 0)⟩:BrokeD)=_;rw[List.getD_eq_getElem?_getD,List.getElem?_eq_getElem h];rfl
      have hwk:=λw' (h1:Bl B w w') (h3:B≤w'.heap.size)=>ref13Where (svc:=(k:Int)) h3 (hX w' h1) hlen.out
      replace hwk:Hid _:=hwk
      have hin:=hwin.out (k:Int)
      replace hin:Hid _:=hin
      clear hck hfk hmke
      have hownx:Hid (∀w',Ext wk w'→OwnB w' w6.heap.size lv Lk):=λw' h=>hown.ext h
      have rk:=Ext.refl wk
      clear hp hown
      have ha1:=(hl.a _ (List.getElem_mem hlt)).one
      have hn1:=(hl.n _ (List.getElem_mem hlt)).one
      (repeat' first|(with_reducible first|exact⟨⟩|(refine gB ?_;intros)|refine gT ?_ ?_)|refine gs ?_|refine sx ?_)
      refine call_k (hwk.out _ FR FR) ?_
      rintro fv wc nc sc hfo
      have fv1:=hfo.one
      have hwc:Hid (Bl w6.heap.size w6 wc∧OwnB wc w6.heap.size lv Lk):=⟨FR,hownx.out _ FR⟩
      have hbc:B≤wc.heap.size:=FR
      generalize hWL:whereL x (k:Int)=WL at *
      clear hWL
      (repeat' first|(with_reducible first|exact⟨⟩|(refine gB ?_;intros)|refine gT ?_ ?_)|refine gs ?_|refine sx ?_)
      subst hmk2
      refine loop_g WL.length (λg0 j g w'=>g 20=.int .i64 j∧(g 4=g0 4∧g 5=g0 5∧g 18=g0 18∧g 19=g0 19)∧∃lv,g 7=lv∧Hid (Bl w6.heap.size w6 w'∧OwnB w' w6.heap.size lv (flagL ck fk Lk j)∧Own w' w6.heap.size 3 1 fv (WL.map intC))) KR ?_ ?_ ?_
      ·(repeat' first|(with_reducible first|exact⟨⟩|(refine gB ?_;intros)|refine gT ?_ ?_)|refine gs ?_|refine sx ?_)
       first|exact⟨_,rfl,hwc.out.1,hwc.out.2,hfo.more FR⟩|exact⟨_,rfl,hwc.out.2,hfo.more FR⟩
      ·clear hlv hlv1 hbl sa1 hownx rk hwc hfo
       rintro j mj g wj hj hjt nj ⟨hij,hfr,lv,hlv,hpj⟩
       simp(maxDischargeDepth:=3) only[U,↓reduceIte,Nat.reduceEqDiff, *] at hfr
       obtain⟨hbl,hown,hbx⟩:=hpj.out
       have sa1:=sa_of hbl.2
       have hlv1:=hown.one
       have rj:=Ext.refl wj
       have hwj2:IntKind.i64.wrap ((j:Int)+1)=((j+1:Nat):Int):=by rw[wrap_i64_id]<;>omega
       have hjI:((j:Nat):Int)<((WL.length:Nat):Int):=by omega
       have hownx:Hid (∀w',Ext wj w'→OwnB w' w6.heap.size lv (flagL ck fk Lk j)):=λw' h=>hown.ext h
       have hfl:Hid ((flagL ck fk Lk j).length<1000000000000):=by
        have h1:=flag_len (c:=ck) (f:=fk) (L0:=Lk) j
        have h2:=hLk.out
        show _<_
        omega
       have hnf:Hid (flagL ck fk Lk (j+1)=addB (ck j) (fk j) (flagL ck fk Lk j)):=rfl
       have e1:=hcj.out j hjt
       have e2:=hfj.out j hjt
       obtain⟨h1,h2⟩:=hin.out j hjt
       obtain⟨q,hq⟩:∃q:Nat,WL[j]=(q:Int):=⟨(WL[j]).toNat,by omega⟩
       have hql:q<x.hosts.length:=by omega
       have hat:hostAt x (q:Int)=x.hosts[q]:=by simp[hostAt,hql]
       rw[hq,hat] at e1
       rw[hq] at e2
       rw[e1,e2] at hnf
       have KW:=(hbx.sl1 (f:=intV)).k (Nat.le_refl _)
       have bj:Bl wj.heap.size wj wj:=Bl.refl (Nat.le_refl _)
       have hfx:Hid (∀w',Ext wj w'→Own w' w6.heap.size 3 1 fv (WL.map intC)):=λw' h=>hbx.ext h
       clear e1 e2 hpj hown hbx h1 h2 hat
       (repeat' first|((with_reducible refine wpd_at 37 ?_);refine wpd_cmid (m:=22) KR KR KR rfl ?_)|(with_reducible first|exact⟨⟩|(refine gB ?_;intros)|refine gT ?_ ?_)|refine gs ?_|simp(maxDischargeDepth:=3) only[↓X,↓Y,↓Q,S1,↓reduceIte,Nat.reduceEqDiff,Nat.reduceAdd,Int.reduceLT,Int.reduceLE,Int.reduceNeg,Int.reduceBEq,Int.reduceBNe,Int.reduceEq,Nat.reduceLeDiff,Nat.reduceMul,Nat.reduceLT, *,srvV,srvC,stateV,stateC]|simp(singlePass:=true) (maxDischargeDepth:=99) only[*,S2,Nat.reduceLT,srvV,srvC,stateV,stateC])
       refine add_kb (B:=w6.heap.size) FR (hownx.out _ FR) hfl.out λv2 w2 n2 s2 hO hK=>?_
       have hb2:Hid (Own w2 w6.heap.size 3 1 fv (WL.map intC)):=own_keep17 (hfx.out _ FR) (by decide) hK.out
       rw[←hnf.out] at hO
       have hv2:=hO.one
       have hOx:Hid (∀w',Ext w2 w'→OwnB w' w6.heap.size v2 (flagL ck fk Lk (j+1))):=λw' h=>hO.ext h
       have hbl2:Bl w6.heap.size w6 w2:=FR
       have r2:=Ext.refl w2
       clear hO
       (repeat' first|(with_reducible first|exact⟨⟩|(refine gB ?_;intros)|refine gT ?_ ?_)|refine gs ?_|refine sx ?_)
       refine next_g hj hjt ?_
       (repeat' first|(with_reducible first|exact⟨⟩|(refine gB ?_;intros)|refine gT ?_ ?_)|refine gs ?_|refine sx ?_)
       refine⟨_,rfl,?_⟩
       first|exact⟨FR,hOx.out _ FR,hb2.out.ext FR⟩|exact⟨hOx.out _ FR,hb2.out.ext FR⟩
      ·clear hlv hlv1 hbl sa1 hownx rk hwc hfo
       rintro g wj nj ⟨hij,hfr,lv,hlv,hpj⟩
       simp(maxDischargeDepth:=3) only[U,↓reduceIte,Nat.reduceEqDiff, *] at hfr
       obtain⟨hbl,hown,hbx⟩:=hpj.out
       have sa1:=sa_of hbl.2
       have hlv1:=hown.one
       have rj:=Ext.refl wj
       have hnl2:¬(WL.length:Nat)<WL.length:=Nat.lt_irrefl _
       have KW:=(hbx.sl1 (f:=intV)).k (Nat.le_refl _)
       have bj:Bl wj.heap.size wj wj:=Bl.refl (Nat.le_refl _)
       rw[←hnx.out] at hown
       have hOx:Hid (∀w',Ext wj w'→OwnB w' w6.heap.size lv (nestL c5 f5 m5 L4 (k+1))):=λw' h=>hown.ext h
       clear hpj hown hbx
       (repeat' first|(with_reducible first|exact⟨⟩|(refine gB ?_;intros)|refine gT ?_ ?_)|refine gs ?_|refine sx ?_)
       refine next_g hk hlt ?_
       (repeat' first|(with_reducible first|exact⟨⟩|(refine gB ?_;intros)|refine gT ?_ ?_)|refine gs ?_|refine sx ?_)
       refine⟨_,rfl,?_⟩
       first|exact⟨FR,hOx.out _ FR⟩|exact hOx.out _ FR
     ·clear hi hlv hlv1 hO hbl1 hbl sa1 hnl
      rintro g wk nk ⟨hi,hf,lv,hlv,hp⟩
      simp(maxDischargeDepth:=3) only[U,↓reduceIte,Nat.reduceEqDiff, *] at hf
      obtain⟨hbl,hown⟩:=hp.out
      have sa1:=sa_of hbl.2
      have hlv1:=hown.one
      have hnl:¬l.length<l.length:=Nat.lt_irrefl _
      have hO:Hid _:=hown
      have hbl1:Hid (Bl w6.heap.size w6 wk):=hbl
      have hxw:Ext w wk:=FR
      clear hp hown
      (repeat' first|(with_reducible first|exact⟨⟩|(refine gB ?_;intros)|refine gT ?_ ?_)|refine gs ?_|refine sx ?_)
      exact hO.out.more hww
end
set_option maxHeartbeats 2000000
section
variable{s:SiteD}{wl:List ServiceD}{x:WorldD}
theorem hosts_len24(h:validB s wl x=true):(hostsB s wl x).length≤32:=by
 have hz:=(valid_parts h).1
 simp only[siteB,sizesB,btw,Bool.and_eq_true,decide_eq_true_eq] at hz
 unfold hostsB
 have h1:=flag_len (c:=coresC s wl x) (f:=λi=>(⟨1,i,0⟩:BrokeD)) (L0:=[]) s.hosts.length
 have h2:=flag_len (c:=phaseC wl x) (f:=λi=>(⟨2,i,0⟩:BrokeD)) (L0:=flagL (coresC s wl x) (λi=>(⟨1,i,0⟩:BrokeD)) [] s.hosts.length) s.hosts.length
 simp only[List.length_nil] at h1
 omega
theorem loads_len24(h:validB s wl x=true):(loadsB s wl x).length≤16:=by
 have hz:=(valid_parts h).1
 simp only[siteB,sizesB,btw,Bool.and_eq_true,decide_eq_true_eq] at hz
 unfold loadsB
 have h1:=flag_len (c:=breakC s wl x) (f:=λi=>(⟨8,i,0⟩:BrokeD)) (L0:=[]) s.breakers.length
 generalize flagL (breakC s wl x) (λi=>(⟨8,i,0⟩:BrokeD)) [] s.breakers.length=L1 at *
 have h2:=flag_len (c:=feedC s wl x) (f:=λi=>(⟨9,i,0⟩:BrokeD)) (L0:=L1) s.feeds.length
 generalize flagL (feedC s wl x) (λi=>(⟨9,i,0⟩:BrokeD)) L1 s.feeds.length=L2 at *
 have h3:=flag_len (c:=loopC s wl x) (f:=λi=>(⟨10,i,0⟩:BrokeD)) (L0:=L2) s.loops.length
 simp only[List.length_nil] at h1
 omega
theorem services_len24(h:validB s wl x=true):(servicesB s wl x).length≤776:=by
 have hp:=valid_parts h
 obtain⟨h8,hl⟩:=wish_lens hp.2.1
 have ha:∀i,i<wl.length→srvA wl i∈wl:=λi hi=>by rw[srvA,List.getElem?_eq_getElem hi];exact List.getElem_mem hi
 unfold servicesB
 have h1:=flag_len (c:=leastC wl x) (f:=λi=>(⟨3,i,0⟩:BrokeD)) (L0:=[]) wl.length
 generalize flagL (leastC wl x) (λi=>(⟨3,i,0⟩:BrokeD)) [] wl.length=L1 at *
 have h2:=nest_len (c:=spreadC s wl x) (f:=λi j=>(⟨4,i,j⟩:BrokeD)) (m:=λi=>(countF s (srvA wl i).domain).toNat) (L0:=L1) (M:=24) wl.length (λi _=>by have:=count_le24 (s:=s) (d:=(srvA wl i).domain);show Int.toNat _≤_;omega)
 generalize nestL (spreadC s wl x) (λi j=>(⟨4,i,j⟩:BrokeD)) (λi=>(countF s (srvA wl i).domain).toNat) L1 wl.length=L2 at *
 have h3:=nest_len (c:=apartC wl x) (f:=λi j=>(⟨5,i,(srvA wl i).apart.getD j 0⟩:BrokeD)) (m:=λi=>(srvA wl i).apart.length) (L0:=L2) (M:=24) wl.length (λi hi=>Nat.le_trans (hl _ (ha i hi)).1 (by decide))
 generalize nestL (apartC wl x) (λi j=>(⟨5,i,(srvA wl i).apart.getD j 0⟩:BrokeD)) (λi=>(srvA wl i).apart.length) L2 wl.length=L3 at *
 have h4:=nest_len (c:=nearC s wl x) (f:=λi j=>(⟨6,i,((srvA wl i).near.getD j ⟨0,0⟩).service⟩:BrokeD)) (m:=λi=>(srvA wl i).near.length) (L0:=L3) (M:=24) wl.length (λi hi=>Nat.le_trans (hl _ (ha i hi)).2 (by decide))
 generalize nestL (nearC s wl x) (λi j=>(⟨6,i,((srvA wl i).near.getD j ⟨0,0⟩).service⟩:BrokeD)) (λi=>(srvA wl i).near.length) L3 wl.length=L4 at *
 have h5:=nest_len (c:=firmC wl x) (f:=λi j=>(⟨7,i,(whereL x i).getD j 0⟩:BrokeD)) (m:=λi=>(whereL x i).length) (L0:=L4) (M:=24) wl.length (λi _=>Nat.le_trans (where_len24 x i) hp.2.2.2.1)
 simp only[List.length_nil] at h1
 omega
end
section
variable{w:World}{B:Nat}{u:SiteVs}{s:SiteD}{wv hv rv sv av:Value}{vs:List Value}{l:List SrvV}{x:WorldD}{p:PlanD}
theorem ref17Broken(hB:B≤w.heap.size)(hs:SiteR w B u s)(hl:WishR w B wv l)(hx0:WorldR w B hv rv x):CallsV Tryz.prog 24 #[.agg (siteC u s).toArray,.agg #[wv],.agg #[hv,rv]] w λv w'=>Ext w w'∧OwnB w' w.heap.size v (brokenB s (l.map (·.x)) x):=by
 have⟨hn,hx⟩:=bg0 w
 have hs':=hs.sk hB
 have hl':=hl.sk hB
 have hx':=hx0.sk hB
 have hS:=hs'.2.2.2.2.2.2
 have hW:=hl'.2.2
 have hX:=hx'.2.2.2.2
 have hbw:Bl B w w:=Bl.refl hB
 have hh1:=hx0.h.one
 have hr1:=hx0.r.one
 unfold brokenB
 (refine callsV_of Tryz.func24 rfl KR KR ?_;rw[Tryz.results24])
 cases hv0:validB s (l.map (·.x)) x
 ·simp only[Bool.false_eq_true,if_false]
  (repeat' first|(with_reducible first|exact⟨⟩|(refine gB ?_;intros)|refine gT ?_ ?_)|refine gs ?_|((with_reducible refine at_f 45 ?_);refine ret_k (ref13Valid (B:=B) FR (hS _ FR) (hW _ FR) (hX _ FR)) λ_ _ _=>?_)|refine sxKeepM240 ?_)
  exact Own.nil _ _ _ _
 simp only[if_true]
 have hval:Hid (validB s (l.map (·.x)) x=true):=hv0
 have b1:=hosts_len24 hv0
 have b2:=services_len24 hv0
 have b3:=loads_len24 hv0
 have hbd:Hid ((hostsB s (l.map (·.x)) x).length≤32∧(servicesB s (l.map (·.x)) x).length≤776∧(loadsB s (l.map (·.x)) x).length≤16):=⟨b1,b2,b3⟩
 clear b1 b2 b3
 (repeat' first|(with_reducible first|exact⟨⟩|(refine gB ?_;intros)|refine gT ?_ ?_)|refine gs ?_|((with_reducible refine at_f 45 ?_);refine ret_k (ref13Valid (B:=B) FR (hS _ FR) (hW _ FR) (hX _ FR)) λ_ _ _=>?_)|refine sxKeepM240 ?_)
 rename_i wq nq sq
 have hwq:w.heap.size≤wq.heap.size:=FR
 clear hv0
 have rq:=Ext.refl wq
 refine call_k (ref17hosts (B:=B) FR (hS _ FR) (hW _ FR) (hX _ FR) hval.out) ?_
 rintro a w1 n1 s1 oa
 have a1:=oa.one
 have r1:=Ext.refl w1
 have oax:Hid (∀w',Ext w1 w'→OwnB w' wq.heap.size a (hostsB s (l.map (·.x)) x)):=λw' h=>oa.ext h
 clear oa
 (repeat' first|(with_reducible first|exact⟨⟩|(refine gB ?_;intros)|refine gT ?_ ?_)|refine gs ?_|refine sxKeepM240 ?_)
 refine call_k (ref17services (B:=B) FR (hS _ FR) (hW _ FR) (hX _ FR) hval.out) ?_
 rintro b w2 n2 s2 ob
 have ob1:=ob.one
 (repeat' first|(with_reducible first|exact⟨⟩|(refine gB ?_;intros)|refine gT ?_ ?_)|refine gs ?_|refine sxKeepM240 ?_)
 refine appendAll_k (e:=64) (sz:=3) (by_:=24) (z:=.agg #[.int .u8 0,.int .i64 0,.int .i64 0]) (B:=wq.heap.size) (c:=brokeC) KR KR rfl (by decide) (by decide) (oax.out _ FR) (ob.slN (f:=brokeC)) (λ_=>rfl) brokeC_one (by have:=hbd.out;omega) FR λv3 w3 n3 s3 o3=>?_
 have v31:=o3.one
 have r3:=Ext.refl w3
 have o3x:Hid (∀w',Ext w3 w'→OwnB w' wq.heap.size v3 (hostsB s (l.map (·.x)) x++servicesB s (l.map (·.x)) x)):=λw' h=>o3.ext h
 clear o3 ob oax
 (repeat' first|(with_reducible first|exact⟨⟩|(refine gB ?_;intros)|refine gT ?_ ?_)|refine gs ?_|refine sxKeepM240 ?_)
 refine call_k (ref17loads (B:=B) FR (hS _ FR) (hW _ FR) (hX _ FR) hval.out) ?_
 rintro c w4 n4 s4 oc
 have oc1:=oc.one
 (repeat' first|(with_reducible first|exact⟨⟩|(refine gB ?_;intros)|refine gT ?_ ?_)|refine gs ?_|refine sxKeepM240 ?_)
 refine appendAll_k (e:=64) (sz:=3) (by_:=24) (z:=.agg #[.int .u8 0,.int .i64 0,.int .i64 0]) (B:=wq.heap.size) (c:=brokeC) KR KR rfl (by decide) (by decide) (o3x.out _ FR) (oc.slN (f:=brokeC)) (λ_=>rfl) brokeC_one (by have:=hbd.out;rw[List.length_append];omega) FR λv5 w5 n5 s5 o5=>?_
 have v51:=o5.one
 have o5x:Hid _:=o5
 clear o5 oc o3x
 (repeat' first|(with_reducible first|exact⟨⟩|(refine gB ?_;intros)|refine gT ?_ ?_)|refine gs ?_|refine sx ?_)
 exact o5x.out.more hwq
end
end Go.Proofs.YtphciegaokdolaaGreatDoor
