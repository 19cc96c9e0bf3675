/- The document's answers, layers 12, 16: Count, DomainOf, Latency. -/
import Derived.Test.YtphciegaokdolaaGreatDoorRef13
import Derived.Test.YtphciegaokdolaaGreatDoorRow
import Derived.Test.YtphciegaokdolaaGreatDoorRel3
import Derived.Test.YtphciegaokdolaaGreatDoorRelT
import Derived.Test.YtphciegaokdolaaGreatDoorRelW
import Derived.Test.YtphciegaokdolaaGreatDoorPure13
namespace Go.Proofs.YtphciegaokdolaaGreatDoor
set_option linter.unusedSimpArgs false
set_option linter.unusedVariables false
open Go Go.RowKit
set_option maxRecDepth 100000
set_option linter.unusedSectionVars false
set_option maxHeartbeats 2000000
theorem sxKeepA240{p q:Prop}(hq:q)(h:p=q:=by first|(simp(maxDischargeDepth:=3) only[↓X,↓Y,↓Q,S1,↓reduceIte,Nat.reduceEqDiff,Nat.reduceAdd,Int.reduceLT,Int.reduceLE,Int.reduceNeg,Int.reduceBEq,Int.reduceBNe,Int.reduceEq,Nat.reduceLeDiff,Nat.reduceMul,Nat.reduceLT, *,siteC];try exact rfl)|(simp(singlePass:=true) (maxDischargeDepth:=99) only[*,S2,Nat.reduceLT,siteC];try exact rfl)):p:=h▸hq
theorem sxKeepA242{p q:Prop}(hq:q)(h:p=q:=by first|(simp(maxDischargeDepth:=3) only[↓X,↓Y,↓Q,S1,↓reduceIte,Nat.reduceEqDiff,Nat.reduceAdd,Int.reduceLT,Int.reduceLE,Int.reduceNeg,Int.reduceBEq,Int.reduceBNe,Int.reduceEq,Nat.reduceLeDiff,Nat.reduceMul,Nat.reduceLT, *,List.take_length];try exact rfl)|(simp(singlePass:=true) (maxDischargeDepth:=99) only[*,S2,Nat.reduceLT,List.take_length];try exact rfl)):p:=h▸hq
theorem sxKeepA243{p q:Prop}(hq:q)(h:p=q:=by first|(simp(maxDischargeDepth:=3) only[↓X,↓Y,↓Q,S1,↓reduceIte,Nat.reduceEqDiff,Nat.reduceAdd,Int.reduceLT,Int.reduceLE,Int.reduceNeg,Int.reduceBEq,Int.reduceBNe,Int.reduceEq,Nat.reduceLeDiff,Nat.reduceMul,Nat.reduceLT, *,List.take_zero,List.all_nil,List.any_nil];try exact rfl)|(simp(singlePass:=true) (maxDischargeDepth:=99) only[*,S2,Nat.reduceLT,List.take_zero,List.all_nil,List.any_nil];try exact rfl)):p:=h▸hq
theorem sxKeepA244{p q:Prop}(hq:q)(h:p=q:=by first|(simp(maxDischargeDepth:=3) only[↓X,↓Y,↓Q,S1,↓reduceIte,Nat.reduceEqDiff,Nat.reduceAdd,Int.reduceLT,Int.reduceLE,Int.reduceNeg,Int.reduceBEq,Int.reduceBNe,Int.reduceEq,Nat.reduceLeDiff,Nat.reduceMul,Nat.reduceLT, *,siteC,hostV,rackV];try exact rfl)|(simp(singlePass:=true) (maxDischargeDepth:=99) only[*,S2,Nat.reduceLT,siteC,hostV,rackV];try exact rfl)):p:=h▸hq
theorem sxKeepA245{p q:Prop}(hq:q)(h:p=q:=by first|(simp(maxDischargeDepth:=3) only[↓X,↓Y,↓Q,S1,↓reduceIte,Nat.reduceEqDiff,Nat.reduceAdd,Int.reduceLT,Int.reduceLE,Int.reduceNeg,Int.reduceBEq,Int.reduceBNe,Int.reduceEq,Nat.reduceLeDiff,Nat.reduceMul,Nat.reduceLT, *,List.range_zero,List.foldl_nil];try exact rfl)|(simp(singlePass:=true) (maxDischargeDepth:=99) only[*,S2,Nat.reduceLT,List.range_zero,List.foldl_nil];try exact rfl)):p:=h▸hq
theorem sxKeepA246{p q:Prop}(hq:q)(h:p=q:=by first|(simp(maxDischargeDepth:=3) only[↓X,↓Y,↓Q,S1,↓reduceIte,Nat.reduceEqDiff,Nat.reduceAdd,Int.reduceLT,Int.reduceLE,Int.reduceNeg,Int.reduceBEq,Int.reduceBNe,Int.reduceEq,Nat.reduceLeDiff,Nat.reduceMul,Nat.reduceLT, *,siteC,hostV];try exact rfl)|(simp(singlePass:=true) (maxDischargeDepth:=99) only[*,S2,Nat.reduceLT,siteC,hostV];try exact rfl)):p:=h▸hq
theorem sxKeepA247{p q:Prop}(hq:q)(h:p=q:=by first|(simp(maxDischargeDepth:=3) only[↓X,↓Y,↓Q,S1,↓reduceIte,Nat.reduceEqDiff,Nat.reduceAdd,Int.reduceLT,Int.reduceLE,Int.reduceNeg,Int.reduceBEq,Int.reduceBNe,Int.reduceEq,Nat.reduceLeDiff,Nat.reduceMul,Nat.reduceLT, *,siteC,rackV];try exact rfl)|(simp(singlePass:=true) (maxDischargeDepth:=99) only[*,S2,Nat.reduceLT,siteC,rackV];try exact rfl)):p:=h▸hq
theorem sxKeepA248{p q:Prop}(hq:q)(h:p=q:=by first|(simp(maxDischargeDepth:=3) only[↓X,↓Y,↓Q,S1,↓reduceIte,Nat.reduceEqDiff,Nat.reduceAdd,Int.reduceLT,Int.reduceLE,Int.reduceNeg,Int.reduceBEq,Int.reduceBNe,Int.reduceEq,Nat.reduceLeDiff,Nat.reduceMul,Nat.reduceLT, *,siteC,breakerV];try exact rfl)|(simp(singlePass:=true) (maxDischargeDepth:=99) only[*,S2,Nat.reduceLT,siteC,breakerV];try exact rfl)):p:=h▸hq
theorem sxKeepA249{p q:Prop}(hq:q)(h:p=q:=by first|(simp(maxDischargeDepth:=3) only[↓X,↓Y,↓Q,S1,↓reduceIte,Nat.reduceEqDiff,Nat.reduceAdd,Int.reduceLT,Int.reduceLE,Int.reduceNeg,Int.reduceBEq,Int.reduceBNe,Int.reduceEq,Nat.reduceLeDiff,Nat.reduceMul,Nat.reduceLT, *,putAt,List.set_cons_zero,List.set_cons_succ,List.length_cons,List.length_nil,Nat.reduceLeDiff,idxOk,flatP,Nat.reduceMul,Nat.reduceLT,replicaV];try exact rfl)|(simp(singlePass:=true) (maxDischargeDepth:=99) only[*,S2,Nat.reduceLT,putAt,List.set_cons_zero,List.set_cons_succ,List.length_cons,List.length_nil,Nat.reduceLeDiff,idxOk,flatP,Nat.reduceMul,Nat.reduceLT,replicaV];try exact rfl)):p:=h▸hq
theorem sxKeepA2410{p q:Prop}(hq:q)(h:p=q:=by first|(simp(maxDischargeDepth:=3) only[↓X,↓Y,↓Q,S1,↓reduceIte,Nat.reduceEqDiff,Nat.reduceAdd,Int.reduceLT,Int.reduceLE,Int.reduceNeg,Int.reduceBEq,Int.reduceBNe,Int.reduceEq,Nat.reduceLeDiff,Nat.reduceMul,Nat.reduceLT, *,replicaV];try exact rfl)|(simp(singlePass:=true) (maxDischargeDepth:=99) only[*,S2,Nat.reduceLT,replicaV];try exact rfl)):p:=h▸hq
theorem sxKeepA2411{p q:Prop}(hq:q)(h:p=q:=by first|(simp(maxDischargeDepth:=3) only[↓X,↓Y,↓Q,S1,↓reduceIte,Nat.reduceEqDiff,Nat.reduceAdd,Int.reduceLT,Int.reduceLE,Int.reduceNeg,Int.reduceBEq,Int.reduceBNe,Int.reduceEq,Nat.reduceLeDiff,Nat.reduceMul,Nat.reduceLT, *,siteC,nearV];try exact rfl)|(simp(singlePass:=true) (maxDischargeDepth:=99) only[*,S2,Nat.reduceLT,siteC,nearV];try exact rfl)):p:=h▸hq
theorem sxKeepA2412{p q:Prop}(hq:q)(h:p=q:=by first|(simp(maxDischargeDepth:=3) only[↓X,↓Y,↓Q,S1,↓reduceIte,Nat.reduceEqDiff,Nat.reduceAdd,Int.reduceLT,Int.reduceLE,Int.reduceNeg,Int.reduceBEq,Int.reduceBNe,Int.reduceEq,Nat.reduceLeDiff,Nat.reduceMul,Nat.reduceLT, *,nearV];try exact rfl)|(simp(singlePass:=true) (maxDischargeDepth:=99) only[*,S2,Nat.reduceLT,nearV];try exact rfl)):p:=h▸hq
def hostS(s:SiteD)(i:Int):HostD:=(s.hosts[i.toNat]?).getD ⟨0,0,0,0⟩
def rackS(s:SiteD)(i:Int):RackD:=(s.racks[i.toNat]?).getD ⟨0,0,0,0⟩
def breakerS(s:SiteD)(i:Int):BreakerD:=(s.breakers[i.toNat]?).getD ⟨0,0,0,0⟩
def countF(s:SiteD)(d:Int):Int:=if siteB s=true then(if d=1 then s.hosts.length else if d=2 then s.racks.length else if d=3 then 4 else if d=4 then s.feeds.length else if d=5 then s.loops.length else 0) else 0
def domF(s:SiteD)(d h:Int):Int:=if siteB s=true∧idx h s.hosts.length=true then(if d=1 then h else if d=2 then(hostS s h).rack else if d=3 then(rackS s (hostS s h).rack).row else if d=4 then(breakerS s (rackS s (hostS s h).rack).breaker).feed else if d=5 then(rackS s (hostS s h).rack).loop else -1) else -1
theorem hostS_at{s:SiteD}{i:Nat}(h:i<s.hosts.length):hostS s (i:Int)=s.hosts[i]:=by simp[hostS,h]
theorem rackS_at{s:SiteD}{i:Nat}(h:i<s.racks.length):rackS s (i:Int)=s.racks[i]:=by simp[rackS,h]
theorem breakerS_at{s:SiteD}{i:Nat}(h:i<s.breakers.length):breakerS s (i:Int)=s.breakers[i]:=by simp[breakerS,h]
theorem site_all{s:SiteD}(h:siteB s=true):(∀x∈s.breakers,idx x.feed s.feeds.length=true)∧(∀x∈s.racks,rackB s x=true)∧(∀x∈s.links,linkB s x=true)∧(∀x∈s.hosts,hostB s x=true)∧sizesB s=true:=by
 simp only[siteB,Bool.and_eq_true,List.all_eq_true] at h
 obtain⟨⟨⟨⟨⟨⟨h1,h2⟩,h3⟩,h4⟩,h5⟩,h6⟩,h7⟩:=h
 refine⟨λx hx=>?_,h5,h6,h7,h1⟩
 have:=h3 x hx
 simp only[breakerB,Bool.and_eq_true] at this
 exact this.1
theorem idx_nat{n:Int}{m:Nat}(h:idx n (m:Int)=true):∃k:Nat,n=(k:Int)∧k<m:=by
 simp only[idx,Bool.and_eq_true,decide_eq_true_eq] at h
 exact⟨n.toNat,by omega,by omega⟩
theorem host_rack{s:SiteD}(h:siteB s=true){i:Nat}(hi:i<s.hosts.length):∃r:Nat,s.hosts[i].rack=(r:Int)∧∃hr:r<s.racks.length,∃b:Nat,s.racks[r].breaker=(b:Int)∧∃hb:b<s.breakers.length,rackB s s.racks[r]=true:=by
 obtain⟨h1,h2,_,h4,_⟩:=site_all h
 have a:=h4 _ (List.getElem_mem hi)
 simp only[hostB,Bool.and_eq_true] at a
 obtain⟨r,e,hr⟩:=idx_nat a.1.1.1
 have b:=h2 _ (List.getElem_mem hr)
 have b':=b
 simp only[rackB,Bool.and_eq_true] at b
 obtain⟨k,e2,hk⟩:=idx_nat b.1.1.2
 exact⟨r,e,hr,k,e2,hk,b'⟩
section
variable{w:World}{B:Nat}{u:SiteVs}{s:SiteD}
theorem ref12Count(hB:B≤w.heap.size)(hs:SiteR w B u s){d:Int}:Ret Tryz.prog 94 #[.agg (siteC u s).toArray,.int .u8 d] w (intV (countF s d)):=by
 have⟨hn,hx⟩:=bg0 w
 have hs':=hs.sk hB
 have hS:=hs'.2.2.2.2.2.2
 have hbw:Bl B w w:=Bl.refl hB
 have hv:=λw' (h1:Bl B w w') (h3:B≤w'.heap.size)=>ref12Valid (w:=w') h3 (hS w' h1)
 unfold countF
 cases hsb:siteB s<;>rw[hsb] at hv
 ·simp only[Bool.false_eq_true,if_false]
  clear hsb
  (refine callsV_of Tryz.func94 rfl KR KR ?_;rw[Tryz.results94])
  (repeat' first|(with_reducible first|exact⟨⟩|(refine gB ?_;intros)|refine gT ?_ ?_)|refine gs ?_|((with_reducible refine at_f 83 ?_);refine ret_k (hv _ FR FR) λ_ _ _=>?_)|refine sxKeepA240 ?_)
 ·simp only[if_true]
  clear hsb
  (refine callsV_of Tryz.func94 rfl KR KR ?_;rw[Tryz.results94])
  (repeat' first|(with_reducible first|exact⟨⟩|(refine gB ?_;intros)|refine gT ?_ ?_)|refine gs ?_|((with_reducible refine at_f 83 ?_);refine ret_k (hv _ FR FR) λ_ _ _=>?_)|refine sxKeepA240 ?_)
theorem ref12DomainOf(hB:B≤w.heap.size)(hs:SiteR w B u s){d h:Int}:Ret Tryz.prog 143 #[.agg (siteC u s).toArray,.int .u8 d,intV h] w (intV (domF s d h)):=by
 have⟨hn,hx⟩:=bg0 w
 have hs':=hs.sk hB
 have hS:=hs'.2.2.2.2.2.2
 have hbw:Bl B w w:=Bl.refl hB
 have hv:=λw' (h1:Bl B w w') (h3:B≤w'.heap.size)=>ref12Valid (w:=w') h3 (hS w' h1)
 have hF:=hs.h.fk
 have rF:=hs.r.fk
 have bF:=hs.b.fk
 unfold domF
 have hq:=λh0 (i:Nat) (hi:i<s.hosts.length)=>host_rack (s:=s) h0 hi
 replace hq:Hid _:=hq
 cases hsb:siteB s<;>rw[hsb] at hv
 ·simp only[Bool.false_eq_true,false_and,if_false]
  clear hsb
  (refine callsV_of Tryz.func143 rfl KR KR ?_;rw[Tryz.results143])
  (repeat' first|(with_reducible first|exact⟨⟩|(refine gB ?_;intros)|refine gT ?_ ?_)|refine gs ?_|((with_reducible refine at_f 83 ?_);refine ret_k (hv _ FR FR) λ_ _ _=>?_)|refine sxKeepA240 ?_)
 ·by_cases hi:idx h s.hosts.length=true
  ·obtain⟨i,rfl,hil⟩:=idx_nat hi
   obtain⟨r,hr,hrl,b,hb,hbl,_⟩:=hq.out hsb i hil
   simp only[hi,and_self,if_true]
   rw[hostS_at hil,hr,rackS_at hrl,hb,breakerS_at hbl]
   have hnl:¬s.hosts.length≤i:=by omega
   clear hsb hi hq
   (refine callsV_of Tryz.func143 rfl KR KR ?_;rw[Tryz.results143])
   (repeat' first|(with_reducible first|exact⟨⟩|(refine gB ?_;intros)|refine gT ?_ ?_)|refine gs ?_|((with_reducible refine at_f 83 ?_);refine ret_k (hv _ FR FR) λ_ _ _=>?_)|simp(maxDischargeDepth:=3) only[↓X,↓Y,↓Q,S1,↓reduceIte,Nat.reduceEqDiff,Nat.reduceAdd,Int.reduceLT,Int.reduceLE,Int.reduceNeg,Int.reduceBEq,Int.reduceBNe,Int.reduceEq,Nat.reduceLeDiff,Nat.reduceMul,Nat.reduceLT, *,siteC,hostV,rackV,breakerV]|simp(singlePass:=true) (maxDischargeDepth:=99) only[*,S2,Nat.reduceLT,siteC,hostV,rackV,breakerV])
   all_goals trace_state
  ·simp only[hi,and_false,if_false]
   have h2:h<0∨(s.hosts.length:Int)≤h:=by simp only[idx,Bool.and_eq_true,decide_eq_true_eq] at hi;omega
   clear hsb hi hq
   (refine callsV_of Tryz.func143 rfl KR KR ?_;rw[Tryz.results143])
   rcases h2 with h2|h2
   ·(repeat' first|(with_reducible first|exact⟨⟩|(refine gB ?_;intros)|refine gT ?_ ?_)|refine gs ?_|((with_reducible refine at_f 83 ?_);refine ret_k (hv _ FR FR) λ_ _ _=>?_)|refine sxKeepA240 ?_)
   ·(repeat' first|(with_reducible first|exact⟨⟩|(refine gB ?_;intros)|refine gT ?_ ?_)|refine gs ?_|((with_reducible refine at_f 83 ?_);refine ret_k (hv _ FR FR) λ_ _ _=>?_)|refine sxKeepA240 ?_)
    all_goals trace_state
end
def linkStep(a b best:Int)(l:LinkD):Int:=if (((l.a == a&&l.b == b)||(l.a == b&&l.b == a))&&(decide (best<0)||decide (l.latency<best)))=true then l.latency else best
def linkF(s:SiteD)(a b:Int):Int:=s.links.foldl (linkStep a b) (-1)
theorem foldl_take{α β:Type}(f:β→α→β)(z:β)(l:List α)(k:Nat)(h:k<l.length):(l.take (k+1)).foldl f z=f ((l.take k).foldl f z) l[k]:=by
 rw[List.take_add_one,List.getElem?_eq_getElem h,Option.toList_some,List.foldl_append];rfl
theorem sl_cells24{α:Type}{w:World}{B n c:Nat}{a:Addr}{l:List α}{f:α→Value}(h:Sl w B none 1 (.slice (some a) n c) (l.map f)):∀j u,(l.map f)[j]? = some u→w.cell? (a.add j)=some u:=by
 intro j u hj
 obtain⟨hl,he⟩:=List.getElem?_eq_some_iff.1 hj
 have h1:=h.rd j hl
 simp only[elemAt,rdv,rd,Nat.mul_one] at h1
 rw[h1,he]
theorem flat24{α:Type}{f:α→Value}(l:List α):(l.map λx=>[f x]).flatten=l.map f:=by
 induction l with
 |nil=>rfl
 |cons a r ih=>simp only[List.map_cons,List.flatten_cons,ih];rfl
theorem appendAll24{w:World}{B:Nat}{α:Type}{B' e by_ t ty:Nat}{s v z:Value}{c:α→Value}{l r:List α}{k:Value→World→Prop}(hsl:slOf Tryz.prog t=some (e,1,by_))(hz:zeroElt Tryz.prog t=some z)(hzs:(cellsL z).length=1)(hby:by_≤64)
 (hown:Own w B e 1 s (l.map λx=>[c x])) (hv:Sl w B' none 1 v (r.map c)) (h1:∀x,(c x).oneCell'=true) (hbound:l.length+r.length<1000000000000) (hB:B≤w.heap.size)
 (h:∀v' w',Now w'→Sa B w w'→Own w' B e 1 v' ((l++r).map λx=>[c x])→k v' w'):appX Tryz.prog t t ty s v w k:=by
 obtain⟨i,hu,hi,hs,hby'⟩:=slOf_parts hsl
 have hz':i.zero=some z:=by
  unfold zeroElt at hz
  rw[hsl] at hz
  simpa [zeroOf,hi] using hz
 have hcells:z.cells.size=1:=by rw[←hzs,←cellsL_eq];simp
 have hlen:lenN v=r.length:=by simpa using hv.len
 have hb:(l.length+r.length) * by_≤1000000000000 * 64:=Nat.mul_le_mul (by omega) hby
 have hwf:=hv.wf
 match v,hv,hlen,hwf with
 |.slice (some a) m cc,hv,hlen,_=>
  obtain rfl:m=r.length:=hlen
  obtain⟨v',w',hr,h2,h3,_,h5⟩:=run_append_own_at (P:=Tryz.prog) w B t ty e i z 1 by_ hu hi hz' hs hby' hcells (by decide) s (l.map λx=>[c x]).length (l.map λx=>[c x]).flatten hown.1 a r.length cc (r.map c) (by rw[List.length_map,Nat.mul_one])
   (sl_cells24 hv) (λu hu=>by obtain⟨x,_,rfl⟩:=List.mem_map.1 hu;exact h1 x) (by simp only[maxLen,List.length_map];omega) (by rw[List.length_map];omega) hB
  refine runsV_ok hr (h v' w' trivial (sa_of (grown_below h3 (λk hk=>(hown.lt k hk).1) hB)) ⟨by rw[flat24] at h2 ⊢;simpa using h2,λx hx=>?_,by simp only[List.length_map,List.length_append];omega⟩)
  obtain⟨y,_,rfl⟩:=List.mem_map.1 hx
  rfl
 |.slice none m cc,hv,hlen,hwf=>
  obtain rfl:m=0:=hwf
  have hr0:r=[]:=List.eq_nil_of_length_eq_zero hlen.symm
  subst hr0
  have hr:(Builtin.append_ #[t,t] ty #[s,.slice none 0 cc]).run Tryz.prog w=.ok s w:=by
   rcases hown.1.2 with ⟨rfl,_⟩|⟨g,cap,cur,rfl,_,_,hnc,_⟩
   ·simp[Builtin.append_,run_underlying hu,sizeOf,typeInfo,hi,Builtin.lenOf,Builtin.firstCells]
   ·rw[List.length_map] at hnc
    simp[Builtin.append_,run_underlying hu,sizeOf,typeInfo,hi,Builtin.lenOf,Builtin.firstCells,hnc,storeCells]
  exact runsV_ok hr (h s w trivial ⟨λ_ _ k _=>k,λ_ _ k _=>k,λ_ k _=>k,λ_ k=>k,λ_ k=>k,λ_ _ k _=>k,λ_ _ k _=>k⟩ (by simpa using hown))
theorem Chg.of_ext24{w w':World}{b:Nat}(h:Ext w w'):Chg w w' b:=(Chg.refl' w b).trans_ext h
theorem appI_both24{w:World}{B b cp:Nat}{s:Value}{l:List Int}(x:Int){k:Value→World→Prop}(hown:Own w B 3 1 s (l.map intC))(hb:Blk w b 3 (intC x))(hbound:l.length<1000000000000)(hB:B≤w.heap.size)
 (hf:∀v' w',full s→Ext w w'→Own w' w.heap.size 3 1 v' ((l++[x]).map intC)→k v' w')
 (hr:∀g cp w',s=.slice (some ⟨g,0,none⟩) l.length cp→l.length<cp→Chg w w' g→Own w' B 3 1 (.slice (some ⟨g,0,none⟩) (l.length+1) cp) ((l++[x]).map intC)→k (.slice (some ⟨g,0,none⟩) (l.length+1) cp) w'):appX Tryz.prog 43 43 43 s (.slice (some ⟨b,0,none⟩) 1 cp) w k:=
 append_both (e:=3) (sz:=1) (by_:=8) (z:=.int .i64 0) (c:=intC) x KR KR rfl (by decide) (by decide) hown hb rfl (by simp[intC,intV,one_int]) hbound hB hf hr
section
variable{w:World}{B:Nat}{u:SiteVs}{s:SiteD}
theorem ref16link(hB:B≤w.heap.size)(hs:SiteR w B u s){a b:Int}:Ret Tryz.prog 220 #[.agg (siteC u s).toArray,intV a,intV b] w (intV (linkF s a b)):=by
 have⟨hn,hx⟩:=bg0 w
 have hs':=hs.sk hB
 have hbw:Bl B w w:=Bl.refl hB
 have hm:=hs.k.max_
 have kF:=hs.k.fk
 unfold linkF
 (refine callsV_of Tryz.func220 rfl KR KR ?_;rw[Tryz.results220])
 (repeat' first|(with_reducible first|exact⟨⟩|(refine gB ?_;intros)|refine gT ?_ ?_)|refine gs ?_|refine sxKeepA240 ?_)
 refine loop_k (s.links.length) (λg0 k g _=>g 8=.int .i64 k∧(g 1=g0 1∧g 2=g0 2∧g 3=g0 3)∧g 7=.int .i64 ((s.links.take k).foldl (linkStep a b) (-1))) KR (hm) ?_ ?_ ?_
 ·(repeat' first|(with_reducible first|exact⟨⟩|(refine gB ?_;intros)|refine gT ?_ ?_)|refine gs ?_|simp(maxDischargeDepth:=3) only[↓X,↓Y,↓Q,S1,↓reduceIte,Nat.reduceEqDiff,Nat.reduceAdd,Int.reduceLT,Int.reduceLE,Int.reduceNeg,Int.reduceBEq,Int.reduceBNe,Int.reduceEq,Nat.reduceLeDiff,Nat.reduceMul,Nat.reduceLT, *,List.take_zero,List.foldl_nil]|simp(singlePass:=true) (maxDischargeDepth:=99) only[*,S2,Nat.reduceLT,List.take_zero,List.foldl_nil])
 ·rintro k m g wk hk hlt _ _ _ hw ⟨hi,hf,hp⟩
  simp(maxDischargeDepth:=3) only[U,↓reduceIte,Nat.reduceEqDiff, *] at hf
  have hnx:=foldl_take (linkStep a b) (-1) s.links k hlt
  generalize (s.links.take k).foldl (linkStep a b) (-1)=q at *
  generalize hl:s.links[k]=x at *
  have hnx':Hid _:=hnx
  clear hnx
  (repeat' first|(with_reducible first|exact⟨⟩|(refine gB ?_;intros)|refine gT ?_ ?_)|refine gs ?_|simp(maxDischargeDepth:=3) only[↓X,↓Y,↓Q,S1,↓reduceIte,Nat.reduceEqDiff,Nat.reduceAdd,Int.reduceLT,Int.reduceLE,Int.reduceNeg,Int.reduceBEq,Int.reduceBNe,Int.reduceEq,Nat.reduceLeDiff,Nat.reduceMul,Nat.reduceLT, *,linkV]|simp(singlePass:=true) (maxDischargeDepth:=99) only[*,S2,Nat.reduceLT,linkV])
  all_goals refine next_k hk hlt ?_ FR
  all_goals (repeat' first|(with_reducible first|exact⟨⟩|(refine gB ?_;intros)|refine gT ?_ ?_)|refine gs ?_|refine sx ?_)
  all_goals first|(rw[hnx'.out];simp[linkStep, *];done)|(subst_vars;rw[hnx'.out];simp[linkStep, *];done)|trace_state
 ·rintro g wk _ _ _ ⟨hi,hf,hp⟩
  simp(maxDischargeDepth:=3) only[U,↓reduceIte,Nat.reduceEqDiff, *] at hf
  (repeat' first|(with_reducible first|exact⟨⟩|(refine gB ?_;intros)|refine gT ?_ ?_)|refine gs ?_|refine sxKeepA242 ?_)
theorem ref16has{v:Value}{l:List Int}{x:Int}(hB:B≤w.heap.size)(hv:Sl w B none 1 v (l.map intV)):Ret Tryz.prog 221 #[v,intV x] w (.bool (l.contains x)):=by
 have⟨hn,hx⟩:=bg0 w
 have hv':=hv.k hB
 have hbw:Bl B w w:=Bl.refl hB
 have hm:=hv.max_
 (refine callsV_of Tryz.func221 rfl KR KR ?_;rw[Tryz.results221])
 (repeat' first|(with_reducible first|exact⟨⟩|(refine gB ?_;intros)|refine gT ?_ ?_)|refine gs ?_|refine sx ?_)
 refine loop_k (l.length) (λg0 k g _=>g 5=.int .i64 k∧(g 0=g0 0∧g 1=g0 1)∧Hid ((l.take k).contains x=false)) KR (hm) ?_ ?_ ?_
 ·(repeat' first|(with_reducible first|exact⟨⟩|(refine gB ?_;intros)|refine gT ?_ ?_)|refine gs ?_|refine sxKeepA243 ?_)
  exact rfl
 ·rintro k m g wk hk hlt _ _ _ hw ⟨hi,hf,hp⟩
  simp(maxDischargeDepth:=3) only[U,↓reduceIte,Nat.reduceEqDiff, *] at hf
  have hnx:(l.take (k+1)).contains x=((l.take k).contains x||x == l[k]):=by
   rw[List.take_add_one,List.getElem?_eq_getElem hlt,Option.toList_some,Bool.eq_iff_iff]
   simp only[List.contains_iff_mem,List.mem_append,List.mem_singleton,Bool.or_eq_true,beq_iff_eq]
  by_cases h1:l[k]=x
  ·have:l.contains x=true:=by rw[List.contains_iff_mem,←h1];exact List.getElem_mem hlt
   rw[this]
   (repeat' first|(with_reducible first|exact⟨⟩|(refine gB ?_;intros)|refine gT ?_ ?_)|refine gs ?_|refine sx ?_)
  ·have h2:(l[k] == x)=false:=by simpa using h1
   (repeat' first|(with_reducible first|exact⟨⟩|(refine gB ?_;intros)|refine gT ?_ ?_)|refine gs ?_|refine sx ?_)
   refine next_k hk hlt ?_ FR
   (repeat' first|(with_reducible first|exact⟨⟩|(refine gB ?_;intros)|refine gT ?_ ?_)|refine gs ?_|refine sx ?_)
   show((l.take k).contains x||x == l[k])=false
   rw[hp.out,Bool.false_or,beq_eq_false_iff_ne]
   exact λe=>h1 e.symm
 ·rintro g wk _ _ _ ⟨hi,hf,hp⟩
  simp(maxDischargeDepth:=3) only[U,↓reduceIte,Nat.reduceEqDiff, *] at hf
  (repeat' first|(with_reducible first|exact⟨⟩|(refine gB ?_;intros)|refine gT ?_ ?_)|refine gs ?_|refine sx ?_)
  have h9:=hp.out
  rw[List.take_length] at h9
  rw[h9]
def bestG(s:SiteD)(at0:Int)(way:List Int)(M:Nat→Int)(least:Int)(x:Nat):Int:=if (decide (linkF s at0 x<0)||way.contains (x:Int))=true then least else if (decide (0≤M x)&&(decide (least<0)||decide (M x<least)))=true then M x else least
def bestN(s:SiteD)(b:Int):Nat→List Int→Int→Int
 |0,_,_=>-1
 |n+1,way,len=>if way.getLast?.getD 0=b then len else(List.range s.switches.toNat).foldl (bestG s (way.getLast?.getD 0) way λx=>bestN s b n (way++[(x:Int)]) (len+linkF s (way.getLast?.getD 0) x)) (-1)
def distF(s:SiteD)(a b:Int):Int:=if siteB s=true∧idx a s.switches=true∧idx b s.switches=true then bestN s b s.switches.toNat [a] 0 else -1
def latF(s:SiteD)(a b:Int):Int:=if siteB s=true∧idx a s.hosts.length=true∧idx b s.hosts.length=true then(if a=b then 0 else if distF s (rackS s (hostS s a).rack).sw (rackS s (hostS s b).rack).sw<0 then -1 else distF s (rackS s (hostS s a).rack).sw (rackS s (hostS s b).rack).sw+1) else -1
theorem link_le{a b:Int}(hs:siteB s=true):-1≤linkF s a b∧linkF s a b≤1000000:=by
 obtain⟨_,_,h3,_⟩:=site_all hs
 unfold linkF
 have:∀(l:List LinkD) (z:Int),(∀x∈l,linkB s x=true)→-1≤z∧z≤1000000→-1≤l.foldl (linkStep a b) z∧l.foldl (linkStep a b) z≤1000000:=by
  intro l
  induction l with
  |nil=>intro z _ h;exact h
  |cons x l ih=>
   intro z hx hz
   refine ih _ (λy hy=>hx y (List.mem_cons_of_mem _ hy)) ?_
   have h:=hx x (List.mem_cons_self ..)
   simp only[linkB,btw,Bool.and_eq_true,decide_eq_true_eq] at h
   unfold linkStep
   split<;>omega
 exact this _ _ h3 (by omega)
def BestOK(s:SiteD)(n:Nat):Prop:=∀{w:World} {B B':Nat} {u:SiteVs} {wv:Value} {way:List Int} {b len:Int} (_:B≤w.heap.size) (_:SiteR w B u s) (_:B'≤w.heap.size) (_:Sl w B' none 1 wv (way.map intV)) (_:0<way.length) (_:way.Nodup) (_:∀x∈way,idx x s.switches=true) (_:way.length+n=s.switches.toNat+1) (_:0≤len∧len≤1000000 * way.length),
 CallsV Tryz.prog 216 #[.agg (siteC u s).toArray,wv,intV b,intV len] w λr w'=>Ext w w'∧∃v0,r=.tuple #[v0,intV (bestN s b n way len)]∧v0.oneCell'=true
theorem best0:BestOK s 0:=by
 intro w B B' u wv way b len hB hs hB' hw h1 hnd hin hns hl
 exfalso
 have h2:way.length≤((List.range s.switches.toNat).map λn:Nat=>(n:Int)).length:=List.Nodup.length_le_of_subset hnd λx hx=>by
  obtain⟨k,rfl,hk⟩:=idx_nat (n:=x) (m:=s.switches.toNat) (by have:=hin x hx;simp only[idx,Bool.and_eq_true,decide_eq_true_eq] at this ⊢;omega)
  exact List.mem_map.2 ⟨k,List.mem_range.2 hk,rfl⟩
 rw[List.length_map,List.length_range] at h2
 omega
theorem bestS{sd:SiteD}(hsb:siteB sd=true){n:Nat}(ih0:BestOK sd n):BestOK sd (n+1):=by
 intro w B B' u wv way b len hB hs hB' hw h1 hnd hin hns hl
 have⟨hn,hx⟩:=bg0 w
 have ih:Hid (BestOK sd n):=ih0
 have hs':=hs.sk hB
 have hw':=hw.k hB'
 have hS:=hs'.2.2.2.2.2.2
 have hbw:Bl B w w:=Bl.refl hB
 have hbw':Bl B' w w:=Bl.refl hB'
 obtain⟨m,hm⟩:∃m,way.length=m+1:=⟨way.length - 1,by omega⟩
 have hlm:=hw.max_
 have hmw:m<way.length:=by omega
 have hlast:way.getLast?.getD 0=way[m]:=by
  rw[List.getLast?_eq_getElem?,show way.length - 1=m by omega,List.getElem?_eq_getElem hmw];rfl
 have hw1:IntKind.i64.wrap (((m+1:Nat):Int) - 1)=(m:Int):=by rw[wrap_i64_id]<;>omega
 have hmn:m<m+1:=Nat.lt_succ_self m
 have hmI:((m:Nat):Int)<((m+1:Nat):Int):=by omega
 clear ih0
 rw[bestN]
 simp only[hlast]
 generalize hat:way[m]=at0 at *
 have hS9:Hid (sd.switches=(sd.switches.toNat:Int)∧sd.switches.toNat≤8):=by
  obtain⟨_,_,_,_,h9⟩:=site_all hsb
  simp only[sizesB,btw,Bool.and_eq_true,decide_eq_true_eq] at h9
  exact⟨by omega,by omega⟩
 have hin':Hid _:=hin
 have hnd':Hid _:=hnd
 have hns':Hid (way.length+(n+1)=sd.switches.toNat+1):=hns
 have hl':Hid _:=hl
 have hm':Hid (way.length=m+1):=hm

 have hlc:=λw' (h1:Bl B w w') (h3:B≤w'.heap.size) (x:Int)=>ref16link (w:=w') (a:=at0) (b:=x) h3 (hS w' h1)
 have hhc:=λw' (h1:Bl B' w w') (h3:B'≤w'.heap.size) (x:Int)=>ref16has (w:=w') (x:=x) h3 (hw'.2.2.2.2.2.2.1 w' h1)
 have hll:=λx:Int=>link_le (a:=at0) (b:=x) hsb
 replace hll:Hid _:=hll
 clear hin hnd hns hl hlast
 (refine callsV_of Tryz.func216 rfl KR KR ?_;rw[Tryz.results216])
 by_cases hab:at0=b
 ·subst hab
  simp only[if_true]
  (repeat' first|(with_reducible first|exact⟨⟩|(refine gB ?_;intros)|refine gT ?_ ?_)|refine gs ?_|refine sxKeepA240 ?_)
  refine appendAll24 (e:=3) (by_:=8) (z:=.int .i64 0) (B:=w.heap.size) (l:=([]:List Int)) (r:=way) (c:=intV) KR KR rfl (by decide) (Own.nil _ _ _ _) (hw'.2.2.2.2.2.2.1 _ FR) (λ_=>rfl) (by have:=hns'.out;have:=hS9.out;simp;omega) FR λv2 w2 n2 s2 hown=>?_
  have o2:=hown.one
  clear hown
  (repeat' first|(with_reducible first|exact⟨⟩|(refine gB ?_;intros)|refine gT ?_ ?_)|refine gs ?_|refine sx ?_)
  exact⟨_,rfl,o2⟩
 ·simp only[if_neg hab]
  have hab2:(at0 == b)=false:=by simpa using hab
  (repeat' first|(with_reducible first|exact⟨⟩|(refine gB ?_;intros)|refine gT ?_ ?_)|refine gs ?_|refine sxKeepA240 ?_)
  rename_i b4 w4 n4 k4 s4 q4
  obtain⟨M,hM⟩:∃M:Nat→Int,Hid (M=λx:Nat=>bestN sd b n (way++[(x:Int)]) (len+linkF sd at0 x)):=⟨_,rfl⟩
  rw[←hM.out]
  refine loop_k sd.switches.toNat (λg0 k g _=>g 14=.int .i64 (k:Int)∧(g 1=g0 1∧g 2=g0 2∧g 3=g0 3∧g 4=g0 4∧g 10=g0 10)∧∃fv,g 12=fv∧∃q,g 13=.int .i64 q∧Hid (fv.oneCell'=true∧q=(List.range k).foldl (bestG sd at0 way M) (-1))) KR (by have:=hS9.out;omega) ?_ ?_ ?_
  ·(repeat' first|(with_reducible first|exact⟨⟩|(refine gB ?_;intros)|refine gT ?_ ?_)|refine gs ?_|refine sx ?_)
   exact⟨_,rfl,_,rfl,rfl,rfl⟩
  ·rintro k m9 g wk hk hlt nk sk bk hwk ⟨hi,hf,fv,hfv,q,hq,hp⟩
   simp(maxDischargeDepth:=3) only[U,↓reduceIte,Nat.reduceEqDiff, *] at hf
   have hkS:((k:Nat):Int)<sd.switches:=by have:=hS9.out.1;omega
   have hf1:=hp.out.1
   have hnx:(List.range (k+1)).foldl (bestG sd at0 way M) (-1)=if (decide (linkF sd at0 k<0)||way.contains (k:Int))=true then q else if (decide (0≤M k)&&(decide (q<0)||decide (M k<q)))=true then M k else q:=by rw[List.range_succ,List.foldl_append,hp.out.2];rfl
   have hMk:M k=bestN sd b n (way++[(k:Int)]) (len+linkF sd at0 k):=by rw[hM.out]
   have hlk:=λw' h1 h3=>hlc w' h1 h3 (k:Int)
   have hhk:=λw' h1 h3=>hhc w' h1 h3 (k:Int)
   have hllk:=hll.out (k:Int)
   generalize linkF sd at0 k=st at *
   generalize M k=Mk at *
   have hnx':Hid _:=hnx
   have hMk':Hid _:=hMk
   have hllk':Hid _:=hllk
   clear hp hnx hMk hlc hhc hllk
   by_cases h1:st<0
   ·have hq2:(List.range (k+1)).foldl (bestG sd at0 way M) (-1)=q:=by rw[hnx'.out];simp[h1]
    replace hq2:Hid _:=hq2
    (repeat' first|(with_reducible first|exact⟨⟩|(refine gB ?_;intros)|refine gT ?_ ?_)|refine gs ?_|((with_reducible refine at_f 220 ?_);refine ret_k (hlk _ FR FR) λ_ _ _=>?_)|refine sxKeepA240 ?_)
    refine next_k hk hlt ?_ FR
    (repeat' first|(with_reducible first|exact⟨⟩|(refine gB ?_;intros)|refine gT ?_ ?_)|refine gs ?_|refine sx ?_)
    exact⟨_,rfl,_,rfl,hf1,hq2.out.symm⟩
   by_cases h2:way.contains (k:Int)=true
   ·have hq2:(List.range (k+1)).foldl (bestG sd at0 way M) (-1)=q:=by rw[hnx'.out];simp only[h2,Bool.or_true,if_true]
    replace hq2:Hid _:=hq2
    rw[h2] at hhk
    (repeat' first|(with_reducible first|exact⟨⟩|(refine gB ?_;intros)|refine gT ?_ ?_)|refine gs ?_|((with_reducible refine at_f 220 ?_);refine ret_k (hlk _ FR FR) λ_ _ _=>?_)|((with_reducible refine at_f 221 ?_);refine ret_k (hhk _ FR FR) λ_ _ _=>?_)|refine sxKeepA240 ?_)
    refine next_k hk hlt ?_ FR
    (repeat' first|(with_reducible first|exact⟨⟩|(refine gB ?_;intros)|refine gT ?_ ?_)|refine gs ?_|refine sx ?_)
    exact⟨_,rfl,_,rfl,hf1,hq2.out.symm⟩
   have h2':way.contains (k:Int)=false:=by simpa using h2
   rw[h2'] at hhk
   have hq2:(List.range (k+1)).foldl (bestG sd at0 way M) (-1)=if (decide (0≤Mk)&&(decide (q<0)||decide (Mk<q)))=true then Mk else q:=by rw[hnx'.out,h2'];simp[h1]
   replace hq2:Hid _:=hq2
   have hnm:Hid ((k:Int)∉way):=by
    have:=h2
    rw[List.contains_iff_mem] at this
    exact this
   clear hnx' h2
   (repeat' first|(with_reducible first|exact⟨⟩|(refine gB ?_;intros)|refine gT ?_ ?_)|refine gs ?_|((with_reducible refine at_f 220 ?_);refine ret_k (hlk _ FR FR) λ_ _ _=>?_)|((with_reducible refine at_f 221 ?_);refine ret_k (hhk _ FR FR) λ_ _ _=>?_)|refine sxKeepA240 ?_)
   rename_i wa na ya wq nq yq
   have hst0:0≤st:=by omega
   have hbl:=hllk'.out.2
   have hlen0:=hl'.out
   have hwl:IntKind.i64.wrap (len+st)=len+st:=by
    have h1:=hm'.out
    have h2:=hns'.out
    have h3:=hS9.out.2
    rw[wrap_i64_id]<;>omega
   refine appendAll24 (e:=3) (by_:=8) (z:=.int .i64 0) (B:=wq.heap.size) (l:=([]:List Int)) (r:=way) (c:=intV) KR KR rfl (by decide) (Own.nil _ _ _ _) (hw'.2.2.2.2.2.2.1 _ FR) (λ_=>rfl) (by have:=hns'.out;have:=hS9.out;simp;omega) (Nat.le_refl _) λnv w2 n2 s2 hown=>?_
   have nv1:=hown.one
   rw[List.nil_append] at hown
   obtain⟨gb,hg9a,hg9b,hg9c⟩:∃g,wq.heap.size≤g∧g<w2.heap.size∧∀b,nv.ownBlock=some b→b=g:=by
    rcases h:nv.ownBlock with _|g
    ·exfalso
     rcases hown.1.2 with ⟨rfl,hn0⟩|⟨g,cap,cur,rfl,_⟩
     ·have:=hm'.out;rw[List.length_map] at hn0;omega
     ·cases h
    ·exact⟨g,(hown.lt g h).1,(hown.lt g h).2,λb hb=>(Option.some.inj hb).symm⟩
   replace hg9c:Hid _:=hg9c
   have hown':Hid (Own w2 wq.heap.size 3 1 nv (way.map intC)):=hown
   have hwlt:way.length<1000000000000:=by have:=hns'.out;have:=hS9.out;omega
   have hq2w:wq.heap.size≤w2.heap.size:=FR
   have hkq:wk.heap.size≤wq.heap.size:=FR
   clear hown
   have hBg:B≤gb:=Nat.le_trans (show B≤wq.heap.size from FR) hg9a
   have hng:¬b4=gb:=by
    have h1:b4<wq.heap.size:=FR
    omega
   have hnd2:Hid ((way++[(k:Int)]).Nodup):=List.nodup_append.2 ⟨hnd'.out,List.nodup_cons.2 ⟨by simp,List.nodup_nil⟩,λx hx y hy=>by rw[List.mem_singleton.1 hy];rintro rfl;exact hnm.out hx⟩
   have hin2:Hid (∀x∈way++[(k:Int)],idx x sd.switches=true):=λx hx=>by
    rcases List.mem_append.1 hx with h1|h1
    ·exact hin'.out x h1
    ·rw[List.mem_singleton.1 h1]
     simp only[idx,Bool.and_eq_true,decide_eq_true_eq]
     omega
   have hns2:Hid ((way++[(k:Int)]).length+n=sd.switches.toNat+1):=by
    have:=hns'.out
    show _=_
    rw[List.length_append];simp only[List.length_cons,List.length_nil];omega
   have hl2:Hid (0≤len+st∧len+st≤1000000 * (way++[(k:Int)]).length):=by
    show _∧_
    rw[List.length_append];simp only[List.length_cons,List.length_nil];omega
   have hw1n:0<(way++[(k:Int)]).length:=by simp
   (repeat' first|((with_reducible refine wpd_at 14 ?_);refine wpd_hold ?_)|(with_reducible first|exact⟨⟩|(refine gB ?_;intros)|refine gT ?_ ?_)|refine gs ?_|refine sx ?_)
   have hRB:∀b∈[gb],b<w2.heap.size:=by simp only[List.mem_cons,List.not_mem_nil,or_false,forall_eq_or_imp,forall_eq];exact FR
   unfold wpdH
   refine wpd_relLW 14 [gb] [(4,gb)] rfl (λiI v w9=>match iI with
    |0=>v=.agg (siteC u sd).toArray
    |1=>v=nv
    |2=>v=.int .i64 (k:Nat)
    |3=>∃b,v=.slice (some ⟨b,0,none⟩) 1 1∧Blk w9 b 3 [.int .i64 (k:Nat)]∧w2.heap.size≤b
    |4=>Own w9 wq.heap.size 3 1 v ((way++[(k:Int)]).map intC)
    |5=>v=intV b
    |6=>v=intV len
    |7=>v=intV st
    |8=>v=intV (len+st)
    |9=>∃u0,v=.tuple #[u0,intV Mk]∧u0.oneCell'=true
    |10=>∃u0,v=.tuple #[u0,intV Mk]∧u0.oneCell'=true
    |11=>∃u0,v=u0∧u0.oneCell'=true
    |12=>v=intV Mk
    |13=>∃u0,v=u0∧u0.oneCell'=true
    |_=>False) KR KR KR hRB (by simp only[List.nodup_cons,List.mem_cons,List.not_mem_nil,or_false,not_or,List.nodup_nil,not_false_eq_true,and_true]<;>exact FR) ?_ ?_ ?_
   ·intro iI v w1 w2 hR hx9
    match iI,hR with
    |0,h|1,h|2,h=>exact h
    |3,⟨b,e,h1,h2⟩=>exact⟨b,e,h1.tb hx9 (λhX=>by have:=hRB b hX.1;omega),h2⟩
    |4,h=>exact Own.tbg h hx9 (λb hb hX=>hX.2.1 (by obtain rfl:=List.mem_singleton.1 hX.1;rfl))
    |5,h|6,h|7,h|8,h|9,h|10,h|11,h|12,h|13,h=>exact h
   ·intro iI oO hi ho gF w9 hx9 hdep hag hun hus
    have s9:=hx9.sb
    simp only[Sb,List.mem_cons,List.not_mem_nil,or_false,forall_eq_or_imp,forall_eq] at s9
    have n9:Now w9:=trivial
    have r9:=Ext.refl w9
    have z9:=hx9.size
    rcases iI with _|_|_|_|_|_|_|_|_|_|_|_|_|_|iI
    cases ho
    have a4:=hag.at 4 KR
    simp only[S5,↓reduceIte,Nat.reduceEqDiff,initF, *] at a4
    clear hag hdep hun hus
    refine⟨λ_=>?_,λb hb=>by simp[bkL] at hb⟩
    refine relStep_off rfl ?_
    rotate_left
    cases ho
    have a16:=hag.at 16 KR
    simp only[S5,↓reduceIte,Nat.reduceEqDiff,initF, *] at a16
    have un4:Kp gb w2 w9:=⟨hRB _ (by simp),hun 4 _ (by decide) rfl KR⟩
    clear hag hdep hun hus
    refine⟨λ_=>?_,λb hb=>by simp[bkL] at hb⟩
    refine relStep_off rfl ?_
    rotate_left
    cases ho
    have a14:=hag.at 14 KR
    simp only[S5,↓reduceIte,Nat.reduceEqDiff,initF, *] at a14
    clear hag hdep hun hus
    refine⟨λ_=>?_,λb hb=>by simp[bkL] at hb⟩
    refine relStep_off rfl ?_
    rotate_left
    cases ho
    have d2:(gF 55)=.int .i64 (k:Nat):=hdep ⟨2,.data⟩ (by simp) rfl _ _ rfl rfl
    have un4:Kp gb w2 w9:=⟨hRB _ (by simp),hun 4 _ (by decide) rfl KR⟩
    clear hag hdep hun hus
    refine⟨λ_=>?_,λb hb=>by simp[bkL] at hb⟩
    refine relStep_off rfl ?_
    rotate_left
    cases ho
    have d1:(gF 54)=nv:=hdep ⟨1,.data⟩ (by simp) rfl _ _ rfl rfl
    obtain⟨b3,e3,hb3,q3⟩:=hdep ⟨3,.data⟩ (by simp) rfl _ _ rfl rfl
    have k3:=hb3.bk
    have nw3:=Nw.of q3
    clear hag hdep hun hus
    refine⟨λh=>by simp[bkL] at h,λb hb hU=>?_⟩
    obtain rfl:gb=b:=by simpa [bkL] using hb
    refine relStep_off rfl ?_
    rotate_left
    cases ho
    have a2:=hag.at 2 KR
    simp only[S5,↓reduceIte,Nat.reduceEqDiff,initF, *] at a2
    clear hag hdep hun hus
    refine⟨λ_=>?_,λb hb=>by simp[bkL] at hb⟩
    refine relStep_off rfl ?_
    rotate_left
    cases ho
    have a3:=hag.at 3 KR
    simp only[S5,↓reduceIte,Nat.reduceEqDiff,initF, *] at a3
    clear hag hdep hun hus
    refine⟨λ_=>?_,λb hb=>by simp[bkL] at hb⟩
    refine relStep_off rfl ?_
    rotate_left
    cases ho
    have a15:=hag.at 15 KR
    simp only[S5,↓reduceIte,Nat.reduceEqDiff,initF, *] at a15
    clear hag hdep hun hus
    refine⟨λ_=>?_,λb hb=>by simp[bkL] at hb⟩
    refine relStep_off rfl ?_
    rotate_left
    cases ho
    have d6:(gF 59)=intV len:=hdep ⟨6,.data⟩ (by simp) rfl _ _ rfl rfl
    have d7:(gF 60)=intV st:=hdep ⟨7,.data⟩ (by simp) rfl _ _ rfl rfl
    clear hag hdep hun hus
    refine⟨λ_=>?_,λb hb=>by simp[bkL] at hb⟩
    refine relStep_off rfl ?_
    rotate_left
    cases ho
    have d0:(gF 53)=.agg (siteC u sd).toArray:=hdep ⟨0,.data⟩ (by simp) rfl _ _ rfl rfl
    have d4:Own w9 wq.heap.size 3 1 (gF 57) ((way++[(k:Int)]).map intC):=hdep ⟨4,.data⟩ (by simp) rfl _ _ rfl rfl
    have O4:=d4.o
    have d5:(gF 58)=intV b:=hdep ⟨5,.data⟩ (by simp) rfl _ _ rfl rfl
    have d8:(gF 61)=intV (len+st):=hdep ⟨8,.data⟩ (by simp) rfl _ _ rfl rfl
    clear hag hdep hun hus
    refine⟨λ_=>?_,λb hb=>by simp[bkL] at hb⟩
    refine relStep_off rfl ?_
    rotate_left
    cases ho
    obtain⟨u9,e9,o9⟩:=hdep ⟨9,.data⟩ (by simp) rfl _ _ rfl rfl
    clear hag hdep hun hus
    refine⟨λ_=>?_,λb hb=>by simp[bkL] at hb⟩
    refine relStep_off rfl ?_
    rotate_left
    cases ho
    obtain⟨u10,e10,o10⟩:=hdep ⟨10,.data⟩ (by simp) rfl _ _ rfl rfl
    clear hag hdep hun hus
    refine⟨λ_=>?_,λb hb=>by simp[bkL] at hb⟩
    refine relStep_off rfl ?_
    rotate_left
    cases ho
    obtain⟨u10,e10,o10⟩:=hdep ⟨10,.data⟩ (by simp) rfl _ _ rfl rfl
    clear hag hdep hun hus
    refine⟨λ_=>?_,λb hb=>by simp[bkL] at hb⟩
    refine relStep_off rfl ?_
    rotate_left
    cases ho
    obtain⟨u11,e11,o11⟩:=hdep ⟨11,.data⟩ (by simp) rfl _ _ rfl rfl
    clear hag hdep hun hus
    refine⟨λ_=>?_,λb hb=>by simp[bkL] at hb⟩
    refine relStep_off rfl ?_
    rotate_left
    ·omega
    all_goals (repeat' first|(with_reducible first|exact⟨⟩|(refine gB ?_;intros)|refine gT ?_ ?_)|refine gs ?_|refine sxKeepA240 ?_)
    all_goals first
     |(rename_i b10 w10 n10 k10 s10 q10;exact⟨_,rfl,k10.2.1 _ k10.2.2.1,FR⟩)
     |(rename_i b10 w10 n10 k10 s10 q10 l10;exact⟨_,rfl,k10.2.1 _ k10.2.2.1,FR⟩)
     |(refine appI_both24 (k:Int) (hown'.out.keep λb hb=>by obtain rfl:=hg9c.out b hb;exact hU) (k3.2.1 _ FR) hwlt FR (λv' w10 hf hx10 hh=>?_) (λg10 cp w10 he hlt hc hh=>?_);exact⟨Chg.of_ext24 hx10,hh.more FR⟩;exact⟨by obtain rfl:=hg9c.out g10 (by rw[he];rfl);exact hc,hh⟩)
     |(refine CallsV.mono (ih.out (w:=w9) (B:=B) (B':=w9.heap.size) (way:=way++[(k:Int)]) (b:=b) (len:=len+st) FR (hS _ FR) (Nat.le_refl _) (d4.sl1 (f:=intV)) hw1n hnd2.out hin2.out hns2.out hl2.out) λv w10 hh=>⟨hh.1,?_⟩;obtain⟨_,v0,rfl,ho⟩:=hh;exact⟨v0,by rw[hMk'.out];rfl,ho⟩)
     |(exact⟨u9,rfl,o9⟩)
     |(exact⟨_,rfl,o10⟩)
     |(exact⟨_,rfl,o11⟩)
   ·intro g9 w9 hx9 hR hS9 hag
    have s9:=hx9.sb
    simp only[Sb,List.mem_cons,List.not_mem_nil,or_false,forall_eq_or_imp,forall_eq] at s9
    have n9:Now w9:=trivial
    have r9:=Ext.refl w9
    have z9:=hx9.size
    obtain⟨vs4,d4⟩:=hS9 4 _ (by decide) rfl
    replace d4:Own w9 wq.heap.size 3 1 vs4 ((way++[(k:Int)]).map intC):=d4
    have d12:(g9 64)=intV Mk:=hR 12 _ _ (by decide) rfl rfl
    have d13:∃u0,(g9 17)=u0∧u0.oneCell'=true:=hR 13 _ _ (by decide) rfl rfl
    obtain⟨u13,e13,o13⟩:=d13
    have a1:=hag.at 1 KR
    have a2:=hag.at 2 KR
    have a3:=hag.at 3 KR
    have a4:=hag.at 4 KR
    have a10:=hag.at 10 KR
    have a12:=hag.at 12 KR
    have a13:=hag.at 13 KR
    have a14:=hag.at 14 KR
    simp only[S5,↓reduceIte,Nat.reduceEqDiff,initF, *] at a1 a2 a3 a4 a10 a12 a13 a14
    clear hag hR hS9
    simp only[List.drop_succ_cons,List.drop_zero]
    have rk:=Ext.refl wk
    have hx1:Ext wk w2:=FR
    have hx2:Ext wk w9:=⟨hx9.os.trans hx1.os,hx9.tape.trans hx1.tape,hx9.output.trans hx1.output,Nat.le_trans hx1.size hx9.size,λc hc=>(hx9.block c (Nat.lt_of_lt_of_le hc hx1.size) (λh=>by have:=List.mem_singleton.1 h;omega)).trans (hx1.block c hc)⟩
    clear s9 hx9 d4
    have s9:=hx2.st
    (repeat' first|(with_reducible first|exact⟨⟩|(refine gB ?_;intros)|refine gT ?_ ?_)|refine gs ?_|refine sx ?_)
    all_goals refine next_k hk hlt ?_ FR
    all_goals (repeat' first|(with_reducible first|exact⟨⟩|(refine gB ?_;intros)|refine gT ?_ ?_)|refine gs ?_|refine sx ?_)
    all_goals first|exact⟨_,rfl,_,rfl,o13,by rw[hq2.out];simp[*]⟩|exact⟨_,rfl,_,rfl,hf1,by rw[hq2.out];simp[*]⟩
  ·rintro g wk nk sk bk ⟨hi,hf,fv,hfv,q,hq,hp⟩
   simp(maxDischargeDepth:=3) only[U,↓reduceIte,Nat.reduceEqDiff, *] at hf
   obtain⟨hf1,rfl⟩:=hp.out
   have hnk:¬((sd.switches.toNat:Nat):Int)<sd.switches:=by have:=hS9.out.1;omega
   clear hp
   (repeat' first|(with_reducible first|exact⟨⟩|(refine gB ?_;intros)|refine gT ?_ ?_)|refine gs ?_|refine sx ?_)
   exact⟨_,rfl,hf1⟩
theorem bestAll(hsb:siteB s=true):∀n,BestOK s n
 |0=>best0
 |n+1=>bestS hsb (bestAll hsb n)
end
section
variable{w:World}{B:Nat}{u:SiteVs}{s:SiteD}
theorem foldl_ok{α β:Type}{P:β→Prop}{f:β→α→β}(h:∀z x,P z→P (f z x)):∀(l:List α) (z:β),P z→P (l.foldl f z)
 |[],_,hz=>hz
 |x::l,z,hz=>foldl_ok h l _ (h z x hz)
theorem best_le(hsb:siteB s=true){b:Int}:∀(n:Nat) (way:List Int) (len:Int),0≤len→-1≤bestN s b n way len∧bestN s b n way len≤len+1000000 * n
 |0,way,len,h=>by rw[bestN];omega
 |n+1,way,len,h=>by
  rw[bestN]
  split
  ·omega
  ·refine foldl_ok (P:=λz=>-1≤z∧z≤len+1000000 * ((n+1:Nat):Int)) (λz x hz=>?_) _ _ (by omega)
   unfold bestG
   dsimp only
   split
   ·exact hz
   ·rename_i hc
    simp only[Bool.or_eq_true,decide_eq_true_eq,not_or] at hc
    have hl:=link_le (a:=way.getLast?.getD 0) (b:=(x:Int)) hsb
    have hb:=best_le (b:=b) hsb n (way++[(x:Int)]) (len+linkF s (way.getLast?.getD 0) x) (by omega)
    have hn1:((n+1:Nat):Int)=(n:Int)+1:=rfl
    rw[hn1] at hz ⊢
    split
    ·exact⟨hb.1,by omega⟩
    ·exact hz
theorem dist_le(hsb:siteB s=true){a b:Int}:-1≤distF s a b∧distF s a b≤100000000:=by
 unfold distF
 split
 ·have h1:=best_le (b:=b) hsb s.switches.toNat [a] 0 (by omega)
  obtain⟨_,_,_,_,h9⟩:=site_all hsb
  simp only[sizesB,btw,Bool.and_eq_true,decide_eq_true_eq] at h9
  omega
 ·omega
theorem ref16known(hB:B≤w.heap.size)(hs:SiteR w B u s){a b:Int}:Ret Tryz.prog 215 #[.agg (siteC u s).toArray,intV a,intV b] w (.bool (siteB s&&(idx a s.switches&&idx b s.switches))):=by
 have⟨hn,hx⟩:=bg0 w
 have hs':=hs.sk hB
 have hS:=hs'.2.2.2.2.2.2
 have hbw:Bl B w w:=Bl.refl hB
 have hv:=λw' (h1:Bl B w w') (h3:B≤w'.heap.size)=>ref12Valid (w:=w') h3 (hS w' h1)
 cases hsb:siteB s<;>rw[hsb] at hv
 ·clear hsb
  (refine callsV_of Tryz.func215 rfl KR KR ?_;rw[Tryz.results215])
  (repeat' first|(with_reducible first|exact⟨⟩|(refine gB ?_;intros)|refine gT ?_ ?_)|refine gs ?_|((with_reducible refine at_f 83 ?_);refine ret_k (hv _ FR FR) λ_ _ _=>?_)|refine sxKeepA240 ?_)
 ·clear hsb
  (refine callsV_of Tryz.func215 rfl KR KR ?_;rw[Tryz.results215])
  (repeat' first|(with_reducible first|exact⟨⟩|(refine gB ?_;intros)|refine gT ?_ ?_)|refine gs ?_|((with_reducible refine at_f 83 ?_);refine ret_k (hv _ FR FR) λ_ _ _=>?_)|refine sxKeepA240 ?_)
  all_goals first|(simp[idx, *];done)|(simp[idx, *];omega)|trace_state
theorem ref16Distance(hB:B≤w.heap.size)(hs:SiteR w B u s){a b:Int}:Ret Tryz.prog 192 #[.agg (siteC u s).toArray,intV a,intV b] w (intV (distF s a b)):=by
 have⟨hn,hx⟩:=bg0 w
 have hs':=hs.sk hB
 have hS:=hs'.2.2.2.2.2.2
 have hbw:Bl B w w:=Bl.refl hB
 have hk:=λw' (h1:Bl B w w') (h3:B≤w'.heap.size)=>ref16known (w:=w') (a:=a) (b:=b) h3 (hS w' h1)
 unfold distF
 by_cases hc:siteB s=true∧idx a s.switches=true∧idx b s.switches=true
 ·obtain⟨c1,c2,c3⟩:=hc
  simp only[c1,c2,c3,and_self,if_true]
  rw[c1,c2,c3] at hk
  have hbest:Hid (BestOK s s.switches.toNat):=bestAll c1 _
  have hsw:Hid (1≤s.switches):=by
   obtain⟨_,_,_,_,h9⟩:=site_all c1
   simp only[sizesB,btw,Bool.and_eq_true,decide_eq_true_eq] at h9
   exact h9.1.1.1.2.1
  have c2':Hid (idx a s.switches=true):=c2
  clear c1 c2 c3
  (refine callsV_of Tryz.func192 rfl KR KR ?_;rw[Tryz.results192])
  (repeat' first|(with_reducible first|exact⟨⟩|(refine gB ?_;intros)|refine gT ?_ ?_)|refine gs ?_|((with_reducible refine at_f 215 ?_);refine ret_k (hk _ FR FR) λ_ _ _=>?_)|refine sxKeepA240 ?_)
  rename_i br wr nr kr sr qr lr
  refine call_k (hbest.out (w:=wr) (B:=B) (B':=wr.heap.size) (way:=[a]) (b:=b) (len:=0) FR (hS _ FR) (Nat.le_refl _) (lr _ FR) (by simp) (by simp) (λx hx=>by rw[List.mem_singleton.1 hx];exact c2'.out) (by have:=hsw.out;simp;omega) (by simp)) ?_
  rintro _ w9 n9 s9 ⟨v0,rfl,ho⟩
  (repeat' first|(with_reducible first|exact⟨⟩|(refine gB ?_;intros)|refine gT ?_ ?_)|refine gs ?_|refine sx ?_)
 ·simp only[if_neg hc]
  have:(siteB s&&(idx a s.switches&&idx b s.switches))=false:=by simpa using hc
  rw[this] at hk
  clear hc this
  (refine callsV_of Tryz.func192 rfl KR KR ?_;rw[Tryz.results192])
  (repeat' first|(with_reducible first|exact⟨⟩|(refine gB ?_;intros)|refine gT ?_ ?_)|refine gs ?_|((with_reducible refine at_f 215 ?_);refine ret_k (hk _ FR FR) λ_ _ _=>?_)|refine sxKeepA240 ?_)
theorem ref16Latency(hB:B≤w.heap.size)(hs:SiteR w B u s){a b:Int}:Ret Tryz.prog 144 #[.agg (siteC u s).toArray,intV a,intV b] w (intV (latF s a b)):=by
 have⟨hn,hx⟩:=bg0 w
 have hs':=hs.sk hB
 have hS:=hs'.2.2.2.2.2.2
 have hbw:Bl B w w:=Bl.refl hB
 have hv:=λw' (h1:Bl B w w') (h3:B≤w'.heap.size)=>ref12Valid (w:=w') h3 (hS w' h1)
 have hF:=hs.h.fk
 have rF:=hs.r.fk
 have hd:=λw' (h1:Bl B w w') (h3:B≤w'.heap.size) (a b:Int)=>ref16Distance (w:=w') (a:=a) (b:=b) h3 (hS w' h1)
 have hq:=λh0 (i:Nat) (hi:i<s.hosts.length)=>host_rack (s:=s) h0 hi
 replace hq:Hid _:=hq
 unfold latF
 cases hsb:siteB s<;>rw[hsb] at hv
 ·simp only[Bool.false_eq_true,false_and,if_false]
  clear hsb hd
  (refine callsV_of Tryz.func144 rfl KR KR ?_;rw[Tryz.results144])
  (repeat' first|(with_reducible first|exact⟨⟩|(refine gB ?_;intros)|refine gT ?_ ?_)|refine gs ?_|((with_reducible refine at_f 83 ?_);refine ret_k (hv _ FR FR) λ_ _ _=>?_)|refine sxKeepA240 ?_)
 by_cases ha:idx a s.hosts.length=true
 rotate_left
 ·have h2:a<0∨(s.hosts.length:Int)≤a:=by simp only[idx,Bool.and_eq_true,decide_eq_true_eq] at ha;omega
  rw[if_neg (λh=>ha h.2.1)]
  clear hsb ha hq hd
  (refine callsV_of Tryz.func144 rfl KR KR ?_;rw[Tryz.results144])
  rcases h2 with h2|h2
  ·(repeat' first|(with_reducible first|exact⟨⟩|(refine gB ?_;intros)|refine gT ?_ ?_)|refine gs ?_|((with_reducible refine at_f 83 ?_);refine ret_k (hv _ FR FR) λ_ _ _=>?_)|refine sxKeepA240 ?_)
  ·(repeat' first|(with_reducible first|exact⟨⟩|(refine gB ?_;intros)|refine gT ?_ ?_)|refine gs ?_|((with_reducible refine at_f 83 ?_);refine ret_k (hv _ FR FR) λ_ _ _=>?_)|refine sxKeepA240 ?_)
 by_cases hb:idx b s.hosts.length=true
 rotate_left
 ·have h2:b<0∨(s.hosts.length:Int)≤b:=by simp only[idx,Bool.and_eq_true,decide_eq_true_eq] at hb;omega
  obtain⟨i,rfl,hil⟩:=idx_nat ha
  have hnl:¬s.hosts.length≤i:=by omega
  rw[if_neg (λh=>hb h.2.2)]
  clear hsb ha hb hq hd
  (refine callsV_of Tryz.func144 rfl KR KR ?_;rw[Tryz.results144])
  rcases h2 with h2|h2
  ·(repeat' first|(with_reducible first|exact⟨⟩|(refine gB ?_;intros)|refine gT ?_ ?_)|refine gs ?_|((with_reducible refine at_f 83 ?_);refine ret_k (hv _ FR FR) λ_ _ _=>?_)|refine sxKeepA240 ?_)
  ·(repeat' first|(with_reducible first|exact⟨⟩|(refine gB ?_;intros)|refine gT ?_ ?_)|refine gs ?_|((with_reducible refine at_f 83 ?_);refine ret_k (hv _ FR FR) λ_ _ _=>?_)|refine sxKeepA240 ?_)
 simp only[ha,hb,and_self,if_true]
 obtain⟨i,rfl,hil⟩:=idx_nat ha
 obtain⟨j,rfl,hjl⟩:=idx_nat hb
 obtain⟨r,hr,hrl,_⟩:=hq.out hsb i hil
 obtain⟨q,hqr,hql,_⟩:=hq.out hsb j hjl
 rw[hostS_at hil,hr,rackS_at hrl,hostS_at hjl,hqr,rackS_at hql]
 have hd2:=λw' h1 h3=>hd w' h1 h3 s.racks[r].sw s.racks[q].sw
 have hDb0:=dist_le (a:=s.racks[r].sw) (b:=s.racks[q].sw) hsb
 generalize distF s s.racks[r].sw s.racks[q].sw=D at *
 have hDb:Hid (-1≤D∧D≤100000000):=hDb0
 have hnl:¬s.hosts.length≤i:=by omega
 have hnl2:¬s.hosts.length≤j:=by omega
 clear hsb ha hb hq hd
 (refine callsV_of Tryz.func144 rfl KR KR ?_;rw[Tryz.results144])
 by_cases hij:i=j
 ·subst hij
  simp only[if_true]
  (repeat' first|(with_reducible first|exact⟨⟩|(refine gB ?_;intros)|refine gT ?_ ?_)|refine gs ?_|((with_reducible refine at_f 83 ?_);refine ret_k (hv _ FR FR) λ_ _ _=>?_)|refine sxKeepA240 ?_)
 have hijI:¬((i:Nat):Int)=((j:Nat):Int):=by omega
 simp only[if_neg hijI]
 by_cases hD:D<0
 ·simp only[if_pos hD]
  (repeat' first|((with_reducible refine wpd_at 5 ?_);refine wpd_cmid (m:=23) KR KR KR rfl ?_)|(with_reducible first|exact⟨⟩|(refine gB ?_;intros)|refine gT ?_ ?_)|refine gs ?_|((with_reducible refine at_f 83 ?_);refine ret_k (hv _ FR FR) λ_ _ _=>?_)|((with_reducible refine at_f 192 ?_);refine ret_k (hd2 _ FR FR) λ_ _ _=>?_)|refine sxKeepA244 ?_)
  all_goals contradiction
 ·simp only[if_neg hD]
  have hw1:IntKind.i64.wrap (D+1)=D+1:=by have:=hDb.out;rw[wrap_i64_id]<;>omega
  (repeat' first|((with_reducible refine wpd_at 5 ?_);refine wpd_cmid (m:=23) KR KR KR rfl ?_)|(with_reducible first|exact⟨⟩|(refine gB ?_;intros)|refine gT ?_ ?_)|refine gs ?_|((with_reducible refine at_f 83 ?_);refine ret_k (hv _ FR FR) λ_ _ _=>?_)|((with_reducible refine at_f 192 ?_);refine ret_k (hd2 _ FR FR) λ_ _ _=>?_)|refine sxKeepA244 ?_)
  all_goals contradiction
end
def w64(n:Int):Int:=IntKind.i64.wrap n
def wattsF(s:SiteD)(wl:List ServiceD)(x:WorldD)(h:Int):Int:=if (hostAt x h).phase=4 then 0 else w64 ((hostS s h).idle+w64 ((hostS s h).perCore * usedI wl x h))
def addIf(c:Nat→Bool)(M:Nat→Int)(z:Int)(i:Nat):Int:=if c i=true then w64 (z+M i) else z
def rackF(s:SiteD)(wl:List ServiceD)(x:WorldD)(r:Int):Int:=(List.range s.hosts.length).foldl (addIf (λi=>(hostS s i).rack == r) λi=>wattsF s wl x i) 0
def breakF(s:SiteD)(wl:List ServiceD)(x:WorldD)(b:Int):Int:=(List.range s.racks.length).foldl (addIf (λi=>(rackS s i).breaker == b) λi=>rackF s wl x i) 0
def feedF(s:SiteD)(wl:List ServiceD)(x:WorldD)(f:Int):Int:=(List.range s.breakers.length).foldl (addIf (λi=>(breakerS s i).feed == f) λi=>breakF s wl x i) 0
def heatF(s:SiteD)(wl:List ServiceD)(x:WorldD)(l:Int):Int:=(List.range s.hosts.length).foldl (addIf (λi=>(rackS s (hostS s i).rack).loop == l) λi=>wattsF s wl x i) 0
theorem addIf_next{c:Nat→Bool}{M:Nat→Int}{k:Nat}:(List.range (k+1)).foldl (addIf c M) 0=if c k=true then w64 ((List.range k).foldl (addIf c M) 0+M k) else(List.range k).foldl (addIf c M) 0:=by
 rw[List.range_succ,List.foldl_append];rfl
section
variable{w:World}{B:Nat}{u:SiteVs}{s:SiteD}{wv hv rv:Value}{l:List SrvV}{x:WorldD}
theorem ref14Watts(hB:B≤w.heap.size)(hs:SiteR w B u s)(hl:WishR w B wv l)(hx0:WorldR w B hv rv x)(hval:validB s (l.map (·.x)) x=true){i:Nat}(hi:i<s.hosts.length):Ret Tryz.prog 146 #[.agg (siteC u s).toArray,.agg #[wv],.agg #[hv,rv],natV i] w (intV (wattsF s (l.map (·.x)) x i)):=by
 have⟨hn,hx⟩:=bg0 w
 have hs':=hs.sk hB
 have hl':=hl.sk hB
 have hx':=hx0.sk hB
 have hS:=hs'.2.2.2.2.2.2
 have hW:=hl'.2.2
 have hX:=hx'.2.2.2.2
 have hbw:Bl B w w:=Bl.refl hB
 have hF:=hs.h.fk
 have hxF:=hx0.h.fk
 have hh1:=hx0.h.one
 have hr1:=hx0.r.one
 have hvl:=λw' (h1:Bl B w w') (h3:B≤w'.heap.size)=>ref13Valid h3 (hS w' h1) (hW w' h1) (hX w' h1)
 rw[hval] at hvl
 have hu:=λw' (h1:Bl B w w') (h3:B≤w'.heap.size)=>ref13Used (host:=(i:Int)) h3 (hW w' h1) (hX w' h1)
 have hlen:=(valid_parts hval).2.2.1
 have hix:i<x.hosts.length:=by omega
 have hat:hostAt x (i:Int)=x.hosts[i]:=by simp[hostAt,hix]
 unfold wattsF w64
 rw[hostS_at hi,hat]
 have hnl:¬s.hosts.length≤i:=by omega
 generalize usedI (l.map (·.x)) x (i:Int)=U at *
 clear hval hlen hat
 (refine callsV_of Tryz.func146 rfl KR KR ?_;rw[Tryz.results146])
 by_cases h4:(x.hosts[i]).phase=4
 ·simp only[if_pos h4]
  (repeat' first|(with_reducible first|exact⟨⟩|(refine gB ?_;intros)|refine gT ?_ ?_)|refine gs ?_|((with_reducible refine at_f 45 ?_);refine ret_k (hvl _ FR FR) λ_ _ _=>?_)|simp(maxDischargeDepth:=3) only[↓X,↓Y,↓Q,S1,↓reduceIte,Nat.reduceEqDiff,Nat.reduceAdd,Int.reduceLT,Int.reduceLE,Int.reduceNeg,Int.reduceBEq,Int.reduceBNe,Int.reduceEq,Nat.reduceLeDiff,Nat.reduceMul,Nat.reduceLT, *,siteC,stateV]|simp(singlePass:=true) (maxDischargeDepth:=99) only[*,S2,Nat.reduceLT,siteC,stateV])
 ·simp only[if_neg h4]
  have h4':((x.hosts[i]).phase == 4)=false:=by simpa using h4
  (repeat' first|(with_reducible first|exact⟨⟩|(refine gB ?_;intros)|refine gT ?_ ?_)|refine gs ?_|((with_reducible refine at_f 45 ?_);refine ret_k (hvl _ FR FR) λ_ _ _=>?_)|((with_reducible refine at_q 92 ?_);refine qret_k (λ_ _ _=>hu _ FR FR) ?_)|simp(maxDischargeDepth:=3) only[↓X,↓Y,↓Q,S1,↓reduceIte,Nat.reduceEqDiff,Nat.reduceAdd,Int.reduceLT,Int.reduceLE,Int.reduceNeg,Int.reduceBEq,Int.reduceBNe,Int.reduceEq,Nat.reduceLeDiff,Nat.reduceMul,Nat.reduceLT, *,siteC,stateV,hostV]|simp(singlePass:=true) (maxDischargeDepth:=99) only[*,S2,Nat.reduceLT,siteC,stateV,hostV])
theorem ref14OfRack(hB:B≤w.heap.size)(hs:SiteR w B u s)(hl:WishR w B wv l)(hx0:WorldR w B hv rv x)(hval:validB s (l.map (·.x)) x=true){r:Int}:Ret Tryz.prog 145 #[.agg (siteC u s).toArray,.agg #[wv],.agg #[hv,rv],intV r] w (intV (rackF s (l.map (·.x)) x r)):=by
 have⟨hn,hx⟩:=bg0 w
 have hs':=hs.sk hB
 have hl':=hl.sk hB
 have hx':=hx0.sk hB
 have hS:=hs'.2.2.2.2.2.2
 have hW:=hl'.2.2
 have hX:=hx'.2.2.2.2
 have hbw:Bl B w w:=Bl.refl hB
 have hF:=hs.h.fk
 have hh1:=hx0.h.one
 have hr1:=hx0.r.one
 have hm:=hs.h.max_
 have hwt:=λw' (h1:Bl B w w') (h3:B≤w'.heap.size) (i:Nat) (hi:i<s.hosts.length)=>ref14Watts h3 (hS w' h1) (hW w' h1) (hX w' h1) hval hi
 unfold rackF
 obtain⟨M,hM⟩:∃M:Nat→Int,Hid (M=λi:Nat=>wattsF s (l.map (·.x)) x i):=⟨_,rfl⟩
 rw[←hM.out]
 have hMi:Hid (∀i:Nat,wattsF s (l.map (·.x)) x i=M i):=λi=>by rw[hM.out]
 replace hwt:Hid _:=hwt
 clear hval hM
 (refine callsV_of Tryz.func145 rfl KR KR ?_;rw[Tryz.results145])
 (repeat' first|(with_reducible first|exact⟨⟩|(refine gB ?_;intros)|refine gT ?_ ?_)|refine gs ?_|refine sxKeepA240 ?_)
 rename_i b4 w4 n4 k4 s4 q4 b5 w5 n5 k5 s5 q5 b6 w6 n6 k6 s6 q6
 have r6:=Ext.refl w6
 refine loop_k (s.hosts.length) (λg0 k g _=>g 10=.int .i64 k∧(g 3=g0 3∧g 4=g0 4∧g 5=g0 5∧g 6=g0 6)∧g 9=.int .i64 ((List.range k).foldl (addIf (λi=>(hostS s i).rack == r) M) 0)) KR (hm) ?_ ?_ ?_
 ·(repeat' first|(with_reducible first|exact⟨⟩|(refine gB ?_;intros)|refine gT ?_ ?_)|refine gs ?_|refine sxKeepA245 ?_)
 ·rintro k m g wk hk hlt _ _ _ hw ⟨hi,hf,hp⟩
  simp(maxDischargeDepth:=3) only[U,↓reduceIte,Nat.reduceEqDiff, *] at hf
  have hnx:=addIf_next (c:=λi=>(hostS s i).rack == r) (M:=M) (k:=k)
  have hwk:=λw' h1 h3=>hwt.out w' h1 h3 k hlt
  rw[hMi.out] at hwk
  generalize (List.range k).foldl (addIf (λi=>(hostS s i).rack == r) M) 0=z at *
  simp only[hostS_at hlt] at hnx
  unfold w64 at hnx
  have hnx':Hid _:=hnx
  clear hnx
  by_cases hc:(s.hosts[k]).rack=r
  ·have hz:(List.range (k+1)).foldl (addIf (λi=>(hostS s i).rack == r) M) 0=IntKind.i64.wrap (z+M k):=by rw[hnx'.out,if_pos (by simpa using hc)]
   have hz':Hid _:=hz
   clear hz hnx'
   (repeat' first|(with_reducible first|exact⟨⟩|(refine gB ?_;intros)|refine gT ?_ ?_)|refine gs ?_|((with_reducible refine at_f 146 ?_);refine ret_k (hwk _ FR FR) λ_ _ _=>?_)|refine sxKeepA246 ?_)
   refine next_k hk hlt ?_ FR
   (repeat' first|(with_reducible first|exact⟨⟩|(refine gB ?_;intros)|refine gT ?_ ?_)|refine gs ?_|refine sx ?_)
   rw[hz'.out]
  ·have hz:(List.range (k+1)).foldl (addIf (λi=>(hostS s i).rack == r) M) 0=z:=by rw[hnx'.out,if_neg (by simpa using hc)]
   have hz':Hid _:=hz
   clear hz hnx'
   (repeat' first|(with_reducible first|exact⟨⟩|(refine gB ?_;intros)|refine gT ?_ ?_)|refine gs ?_|refine sxKeepA246 ?_)
   all_goals first|contradiction|refine next_k hk hlt ?_ FR
   (repeat' first|(with_reducible first|exact⟨⟩|(refine gB ?_;intros)|refine gT ?_ ?_)|refine gs ?_|refine sx ?_)
   rw[hz'.out]
 ·rintro g wk _ _ _ ⟨hi,hf,hp⟩
  simp(maxDischargeDepth:=3) only[U,↓reduceIte,Nat.reduceEqDiff, *] at hf
  (repeat' first|(with_reducible first|exact⟨⟩|(refine gB ?_;intros)|refine gT ?_ ?_)|refine gs ?_|refine sx ?_)
theorem ref14OfBreaker(hB:B≤w.heap.size)(hs:SiteR w B u s)(hl:WishR w B wv l)(hx0:WorldR w B hv rv x)(hval:validB s (l.map (·.x)) x=true){r:Int}:Ret Tryz.prog 99 #[.agg (siteC u s).toArray,.agg #[wv],.agg #[hv,rv],intV r] w (intV (breakF s (l.map (·.x)) x r)):=by
 have⟨hn,hx⟩:=bg0 w
 have hs':=hs.sk hB
 have hl':=hl.sk hB
 have hx':=hx0.sk hB
 have hS:=hs'.2.2.2.2.2.2
 have hW:=hl'.2.2
 have hX:=hx'.2.2.2.2
 have hbw:Bl B w w:=Bl.refl hB
 have hF:=hs.r.fk
 have hh1:=hx0.h.one
 have hr1:=hx0.r.one
 have hm:=hs.r.max_
 have hwt:=λw' (h1:Bl B w w') (h3:B≤w'.heap.size) (i:Nat)=>ref14OfRack (r:=(i:Int)) h3 (hS w' h1) (hW w' h1) (hX w' h1) hval
 unfold breakF
 obtain⟨M,hM⟩:∃M:Nat→Int,Hid (M=λi:Nat=>rackF s (l.map (·.x)) x i):=⟨_,rfl⟩
 rw[←hM.out]
 have hMi:Hid (∀i:Nat,rackF s (l.map (·.x)) x i=M i):=λi=>by rw[hM.out]
 replace hwt:Hid _:=hwt
 clear hval hM
 (refine callsV_of Tryz.func99 rfl KR KR ?_;rw[Tryz.results99])
 (repeat' first|(with_reducible first|exact⟨⟩|(refine gB ?_;intros)|refine gT ?_ ?_)|refine gs ?_|refine sxKeepA240 ?_)
 rename_i b4 w4 n4 k4 s4 q4 b5 w5 n5 k5 s5 q5 b6 w6 n6 k6 s6 q6
 have r6:=Ext.refl w6
 refine loop_k (s.racks.length) (λg0 k g _=>g 10=.int .i64 k∧(g 3=g0 3∧g 4=g0 4∧g 5=g0 5∧g 6=g0 6)∧g 9=.int .i64 ((List.range k).foldl (addIf (λi=>(rackS s i).breaker == r) M) 0)) KR (hm) ?_ ?_ ?_
 ·(repeat' first|(with_reducible first|exact⟨⟩|(refine gB ?_;intros)|refine gT ?_ ?_)|refine gs ?_|refine sxKeepA245 ?_)
 ·rintro k m g wk hk hlt _ _ _ hw ⟨hi,hf,hp⟩
  simp(maxDischargeDepth:=3) only[U,↓reduceIte,Nat.reduceEqDiff, *] at hf
  have hnx:=addIf_next (c:=λi=>(rackS s i).breaker == r) (M:=M) (k:=k)
  have hwk:=λw' h1 h3=>hwt.out w' h1 h3 k
  rw[hMi.out] at hwk
  generalize (List.range k).foldl (addIf (λi=>(rackS s i).breaker == r) M) 0=z at *
  simp only[rackS_at hlt] at hnx
  unfold w64 at hnx
  have hnx':Hid _:=hnx
  clear hnx
  by_cases hc:(s.racks[k]).breaker=r
  ·have hz:(List.range (k+1)).foldl (addIf (λi=>(rackS s i).breaker == r) M) 0=IntKind.i64.wrap (z+M k):=by rw[hnx'.out,if_pos (by simpa using hc)]
   have hz':Hid _:=hz
   clear hz hnx'
   (repeat' first|(with_reducible first|exact⟨⟩|(refine gB ?_;intros)|refine gT ?_ ?_)|refine gs ?_|((with_reducible refine at_f 145 ?_);refine ret_k (hwk _ FR FR) λ_ _ _=>?_)|refine sxKeepA247 ?_)
   refine next_k hk hlt ?_ FR
   (repeat' first|(with_reducible first|exact⟨⟩|(refine gB ?_;intros)|refine gT ?_ ?_)|refine gs ?_|refine sx ?_)
   rw[hz'.out]
  ·have hz:(List.range (k+1)).foldl (addIf (λi=>(rackS s i).breaker == r) M) 0=z:=by rw[hnx'.out,if_neg (by simpa using hc)]
   have hz':Hid _:=hz
   clear hz hnx'
   (repeat' first|(with_reducible first|exact⟨⟩|(refine gB ?_;intros)|refine gT ?_ ?_)|refine gs ?_|refine sxKeepA247 ?_)
   all_goals first|contradiction|refine next_k hk hlt ?_ FR
   (repeat' first|(with_reducible first|exact⟨⟩|(refine gB ?_;intros)|refine gT ?_ ?_)|refine gs ?_|refine sx ?_)
   rw[hz'.out]
 ·rintro g wk _ _ _ ⟨hi,hf,hp⟩
  simp(maxDischargeDepth:=3) only[U,↓reduceIte,Nat.reduceEqDiff, *] at hf
  (repeat' first|(with_reducible first|exact⟨⟩|(refine gB ?_;intros)|refine gT ?_ ?_)|refine gs ?_|refine sx ?_)
theorem ref14OfFeed(hB:B≤w.heap.size)(hs:SiteR w B u s)(hl:WishR w B wv l)(hx0:WorldR w B hv rv x)(hval:validB s (l.map (·.x)) x=true){r:Int}:Ret Tryz.prog 100 #[.agg (siteC u s).toArray,.agg #[wv],.agg #[hv,rv],intV r] w (intV (feedF s (l.map (·.x)) x r)):=by
 have⟨hn,hx⟩:=bg0 w
 have hs':=hs.sk hB
 have hl':=hl.sk hB
 have hx':=hx0.sk hB
 have hS:=hs'.2.2.2.2.2.2
 have hW:=hl'.2.2
 have hX:=hx'.2.2.2.2
 have hbw:Bl B w w:=Bl.refl hB
 have hF:=hs.b.fk
 have hh1:=hx0.h.one
 have hr1:=hx0.r.one
 have hm:=hs.b.max_
 have hwt:=λw' (h1:Bl B w w') (h3:B≤w'.heap.size) (i:Nat)=>ref14OfBreaker (r:=(i:Int)) h3 (hS w' h1) (hW w' h1) (hX w' h1) hval
 unfold feedF
 obtain⟨M,hM⟩:∃M:Nat→Int,Hid (M=λi:Nat=>breakF s (l.map (·.x)) x i):=⟨_,rfl⟩
 rw[←hM.out]
 have hMi:Hid (∀i:Nat,breakF s (l.map (·.x)) x i=M i):=λi=>by rw[hM.out]
 replace hwt:Hid _:=hwt
 clear hval hM
 (refine callsV_of Tryz.func100 rfl KR KR ?_;rw[Tryz.results100])
 (repeat' first|(with_reducible first|exact⟨⟩|(refine gB ?_;intros)|refine gT ?_ ?_)|refine gs ?_|refine sxKeepA240 ?_)
 rename_i b4 w4 n4 k4 s4 q4 b5 w5 n5 k5 s5 q5 b6 w6 n6 k6 s6 q6
 have r6:=Ext.refl w6
 refine loop_k (s.breakers.length) (λg0 k g _=>g 10=.int .i64 k∧(g 3=g0 3∧g 4=g0 4∧g 5=g0 5∧g 6=g0 6)∧g 9=.int .i64 ((List.range k).foldl (addIf (λi=>(breakerS s i).feed == r) M) 0)) KR (hm) ?_ ?_ ?_
 ·(repeat' first|(with_reducible first|exact⟨⟩|(refine gB ?_;intros)|refine gT ?_ ?_)|refine gs ?_|refine sxKeepA245 ?_)
 ·rintro k m g wk hk hlt _ _ _ hw ⟨hi,hf,hp⟩
  simp(maxDischargeDepth:=3) only[U,↓reduceIte,Nat.reduceEqDiff, *] at hf
  have hnx:=addIf_next (c:=λi=>(breakerS s i).feed == r) (M:=M) (k:=k)
  have hwk:=λw' h1 h3=>hwt.out w' h1 h3 k
  rw[hMi.out] at hwk
  generalize (List.range k).foldl (addIf (λi=>(breakerS s i).feed == r) M) 0=z at *
  simp only[breakerS_at hlt] at hnx
  unfold w64 at hnx
  have hnx':Hid _:=hnx
  clear hnx
  by_cases hc:(s.breakers[k]).feed=r
  ·have hz:(List.range (k+1)).foldl (addIf (λi=>(breakerS s i).feed == r) M) 0=IntKind.i64.wrap (z+M k):=by rw[hnx'.out,if_pos (by simpa using hc)]
   have hz':Hid _:=hz
   clear hz hnx'
   (repeat' first|(with_reducible first|exact⟨⟩|(refine gB ?_;intros)|refine gT ?_ ?_)|refine gs ?_|((with_reducible refine at_f 99 ?_);refine ret_k (hwk _ FR FR) λ_ _ _=>?_)|refine sxKeepA248 ?_)
   refine next_k hk hlt ?_ FR
   (repeat' first|(with_reducible first|exact⟨⟩|(refine gB ?_;intros)|refine gT ?_ ?_)|refine gs ?_|refine sx ?_)
   rw[hz'.out]
  ·have hz:(List.range (k+1)).foldl (addIf (λi=>(breakerS s i).feed == r) M) 0=z:=by rw[hnx'.out,if_neg (by simpa using hc)]
   have hz':Hid _:=hz
   clear hz hnx'
   (repeat' first|(with_reducible first|exact⟨⟩|(refine gB ?_;intros)|refine gT ?_ ?_)|refine gs ?_|refine sxKeepA248 ?_)
   all_goals first|contradiction|refine next_k hk hlt ?_ FR
   (repeat' first|(with_reducible first|exact⟨⟩|(refine gB ?_;intros)|refine gT ?_ ?_)|refine gs ?_|refine sx ?_)
   rw[hz'.out]
 ·rintro g wk _ _ _ ⟨hi,hf,hp⟩
  simp(maxDischargeDepth:=3) only[U,↓reduceIte,Nat.reduceEqDiff, *] at hf
  (repeat' first|(with_reducible first|exact⟨⟩|(refine gB ?_;intros)|refine gT ?_ ?_)|refine gs ?_|refine sx ?_)
end
section
variable{w:World}{B:Nat}{u:SiteVs}{s:SiteD}{wv hv rv:Value}{l:List SrvV}{x:WorldD}
theorem ref15Heat(hB:B≤w.heap.size)(hs:SiteR w B u s)(hl:WishR w B wv l)(hx0:WorldR w B hv rv x)(hval:validB s (l.map (·.x)) x=true){r:Int}:Ret Tryz.prog 101 #[.agg (siteC u s).toArray,.agg #[wv],.agg #[hv,rv],intV r] w (intV (heatF s (l.map (·.x)) x r)):=by
 have⟨hn,hx⟩:=bg0 w
 have hs':=hs.sk hB
 have hl':=hl.sk hB
 have hx':=hx0.sk hB
 have hS:=hs'.2.2.2.2.2.2
 have hW:=hl'.2.2
 have hX:=hx'.2.2.2.2
 have hbw:Bl B w w:=Bl.refl hB
 have hF:=hs.h.fk
 have rF:=hs.r.fk
 have hh1:=hx0.h.one
 have hr1:=hx0.r.one
 have hm:=hs.h.max_
 have hwt:=λw' (h1:Bl B w w') (h3:B≤w'.heap.size) (i:Nat) (hi:i<s.hosts.length)=>ref14Watts h3 (hS w' h1) (hW w' h1) (hX w' h1) hval hi
 have hvl:=λw' (h1:Bl B w w') (h3:B≤w'.heap.size)=>ref13Valid h3 (hS w' h1) (hW w' h1) (hX w' h1)
 rw[hval] at hvl
 have hq:Hid (∀(i:Nat) (hi:i<s.hosts.length),∃r:Nat,s.hosts[i].rack=(r:Int)∧∃hr:r<s.racks.length,True):=λi hi=>by
  obtain⟨r,h1,h2,_⟩:=host_rack (valid_parts hval).1 hi
  exact⟨r,h1,h2,trivial⟩
 unfold heatF
 obtain⟨M,hM⟩:∃M:Nat→Int,Hid (M=λi:Nat=>wattsF s (l.map (·.x)) x i):=⟨_,rfl⟩
 rw[←hM.out]
 have hMi:Hid (∀i:Nat,wattsF s (l.map (·.x)) x i=M i):=λi=>by rw[hM.out]
 replace hwt:Hid _:=hwt
 clear hval hM
 (refine callsV_of Tryz.func101 rfl KR KR ?_;rw[Tryz.results101])
 (repeat' first|(with_reducible first|exact⟨⟩|(refine gB ?_;intros)|refine gT ?_ ?_)|refine gs ?_|refine sxKeepA240 ?_)
 rename_i b4 w4 n4 k4 s4 q4 b5 w5 n5 k5 s5 q5 b6 w6 n6 k6 s6 q6
 have r6:=Ext.refl w6
 refine loop_k (s.hosts.length) (λg0 k g _=>g 10=.int .i64 k∧(g 3=g0 3∧g 4=g0 4∧g 5=g0 5∧g 6=g0 6)∧g 9=.int .i64 ((List.range k).foldl (addIf (λi=>(rackS s (hostS s i).rack).loop == r) M) 0)) KR (hm) ?_ ?_ ?_
 ·(repeat' first|(with_reducible first|exact⟨⟩|(refine gB ?_;intros)|refine gT ?_ ?_)|refine gs ?_|refine sxKeepA245 ?_)
 ·rintro k m g wk hk hlt _ _ _ hw ⟨hi,hf,hp⟩
  simp(maxDischargeDepth:=3) only[U,↓reduceIte,Nat.reduceEqDiff, *] at hf
  have hnx:=addIf_next (c:=λi=>(rackS s (hostS s i).rack).loop == r) (M:=M) (k:=k)
  have hwk:=λw' h1 h3=>hwt.out w' h1 h3 k hlt
  rw[hMi.out] at hwk
  generalize (List.range k).foldl (addIf (λi=>(rackS s (hostS s i).rack).loop == r) M) 0=z at *
  obtain⟨q,hqr,hql,_⟩:=hq.out k hlt
  simp only[hostS_at hlt,hqr,rackS_at hql] at hnx
  unfold w64 at hnx
  have hnx':Hid _:=hnx
  clear hnx
  by_cases hc:(s.racks[q]).loop=r
  ·have hz:(List.range (k+1)).foldl (addIf (λi=>(rackS s (hostS s i).rack).loop == r) M) 0=IntKind.i64.wrap (z+M k):=by rw[hnx'.out,if_pos (by simpa using hc)]
   have hz':Hid _:=hz
   clear hz hnx'
   (repeat' first|(with_reducible first|exact⟨⟩|(refine gB ?_;intros)|refine gT ?_ ?_)|refine gs ?_|((with_reducible refine at_f 146 ?_);refine ret_k (hwk _ FR FR) λ_ _ _=>?_)|((with_reducible refine at_f 45 ?_);refine ret_k (hvl _ FR FR) λ_ _ _=>?_)|refine sxKeepA244 ?_)
   refine next_k hk hlt ?_ FR
   (repeat' first|(with_reducible first|exact⟨⟩|(refine gB ?_;intros)|refine gT ?_ ?_)|refine gs ?_|refine sx ?_)
   rw[hz'.out]
  ·have hz:(List.range (k+1)).foldl (addIf (λi=>(rackS s (hostS s i).rack).loop == r) M) 0=z:=by rw[hnx'.out,if_neg (by simpa using hc)]
   have hz':Hid _:=hz
   clear hz hnx'
   (repeat' first|(with_reducible first|exact⟨⟩|(refine gB ?_;intros)|refine gT ?_ ?_)|refine gs ?_|((with_reducible refine at_f 45 ?_);refine ret_k (hvl _ FR FR) λ_ _ _=>?_)|refine sxKeepA244 ?_)
   all_goals first|contradiction|refine next_k hk hlt ?_ FR
   (repeat' first|(with_reducible first|exact⟨⟩|(refine gB ?_;intros)|refine gT ?_ ?_)|refine gs ?_|refine sx ?_)
   rw[hz'.out]
 ·rintro g wk _ _ _ ⟨hi,hf,hp⟩
  simp(maxDischargeDepth:=3) only[U,↓reduceIte,Nat.reduceEqDiff, *] at hf
  (repeat' first|(with_reducible first|exact⟨⟩|(refine gB ?_;intros)|refine gT ?_ ?_)|refine gs ?_|refine sx ?_)
end
structure BrokeD where
 kind:Int
 a:Int
 b:Int
deriving DecidableEq
def brokeC(x:BrokeD):List Value:=[.int .u8 x.kind,intV x.a,intV x.b]
def brokeV(x:BrokeD):Value:=.agg (brokeC x).toArray
def addB(is:Bool)(x:BrokeD)(l:List BrokeD):List BrokeD:=if is=true then l++[x] else l
theorem brokeC_one(x:BrokeD):∀v∈brokeC x,v.oneCell'=true:=by
 simp only[brokeC,intV,List.mem_cons,List.not_mem_nil,or_false,forall_eq_or_imp,forall_eq]
 exact⟨rfl,rfl,rfl⟩
section
variable{w:World}{B:Nat}{u:SiteVs}{s:SiteD}{wv hv rv v:Value}{l:List SrvV}{x:WorldD}
theorem ref17share(hB:B≤w.heap.size)(hx0:WorldR w B hv rv x)(hlen:x.replicas.length<1000000000000){a b:Int}:Ret Tryz.prog 96 #[.agg #[hv,rv],intV a,intV b] w (.bool ((whereL x a).any λh=>hasB x.replicas ⟨b,h⟩)):=by
 have⟨hn,hx⟩:=bg0 w
 have hx':=hx0.sk hB
 have hX:=hx'.2.2.2.2
 have hbw:Bl B w w:=Bl.refl hB
 have hh1:=hx0.h.one
 have hr1:=hx0.r.one
 (refine callsV_of Tryz.func96 rfl KR KR ?_;rw[Tryz.results96])
 (repeat' first|(with_reducible first|exact⟨⟩|(refine gB ?_;intros)|refine gT ?_ ?_)|refine gs ?_|refine sx ?_)
 refine call_k (ref13Where (svc:=a) (B:=B) FR (hX _ FR) hlen) ?_
 rintro lv w1 n1 s1 hown
 have hv1:=hown.one
 have K:=(hown.sl1 (f:=intV)).k (Nat.le_refl _)
 have b1:Bl w1.heap.size w1 w1:=Bl.refl (Nat.le_refl _)
 have hm:=(hown.sl1 (f:=intV)).max_
 clear hown
 generalize whereL x a=L at *
 (repeat' first|(with_reducible first|exact⟨⟩|(refine gB ?_;intros)|refine gT ?_ ?_)|refine gs ?_|refine sx ?_)
 refine loop_k (L.length) (λg0 k g _=>g 8=.int .i64 k∧(g 2=g0 2∧g 3=g0 3∧g 7=g0 7)∧Hid ((L.take k).any (λh=>hasB x.replicas ⟨b,h⟩)=false)) KR (hm) ?_ ?_ ?_
 ·(repeat' first|(with_reducible first|exact⟨⟩|(refine gB ?_;intros)|refine gT ?_ ?_)|refine gs ?_|refine sxKeepA243 ?_)
  first|exact rfl|exact trivial
 ·rintro k m g wk hk hlt _ _ _ hw ⟨hi,hf,hp⟩
  simp(maxDischargeDepth:=3) only[U,↓reduceIte,Nat.reduceEqDiff, *] at hf
  have hhs:=λw' (h1:Bl B w w') (h3:B≤w'.heap.size)=>ref13Has (r:=⟨b,L[k]⟩) h3 (hX w' h1)
  have hnx:(L.take (k+1)).any (λh=>hasB x.replicas ⟨b,h⟩)=((L.take k).any (λh=>hasB x.replicas ⟨b,h⟩)||hasB x.replicas ⟨b,L[k]⟩):=by
   rw[List.take_add_one,List.getElem?_eq_getElem hlt,Option.toList_some,List.any_append];simp
  have hnx':Hid _:=hnx
  clear hnx
  cases hb1:hasB x.replicas ⟨b,L[k]⟩
  ·rw[hb1] at hhs
   (repeat' first|((with_reducible refine wpd_at 5 ?_);refine wpd_hold ?_)|(with_reducible first|exact⟨⟩|(refine gB ?_;intros)|refine gT ?_ ?_)|refine gs ?_|refine sx ?_)
   unfold wpdH
   refine wpd_rel 7 (λiI v w9=>match iI with
    |0=>v=.agg #[hv,rv]
    |1=>v=intV b
    |2=>v=lv
    |3=>v=.int .i64 (k:Nat)
    |4=>v=elemAt lv 1 k
    |5=>v=intV L[k]
    |6=>v=.agg #[intV b,intV L[k]]
    |_=>False) KR KR KR ?_ ?_ ?_
   ·intro iI v w1 w2 hR hx9
    match iI,hR with
    |0,h|1,h|2,h|3,h|4,h|5,h|6,h=>exact h
   ·intro iI oO hi ho gF w9 hx9 hdep hag
    have⟨s9,n9,r9,z9⟩:=bg9 hx9
    rcases iI with _|_|_|_|_|_|_|iI
    cases ho
    have a3:=hag.at 3 KR
    simp only[S5,↓reduceIte,Nat.reduceEqDiff,initF, *] at a3
    clear hag hdep
    refine relStep_off rfl ?_
    rotate_left
    cases ho
    have a2:=hag.at 2 KR
    simp only[S5,↓reduceIte,Nat.reduceEqDiff,initF, *] at a2
    clear hag hdep
    refine relStep_off rfl ?_
    rotate_left
    cases ho
    have a7:=hag.at 7 KR
    simp only[S5,↓reduceIte,Nat.reduceEqDiff,initF, *] at a7
    clear hag hdep
    refine relStep_off rfl ?_
    rotate_left
    cases ho
    have a8:=hag.at 8 KR
    simp only[S5,↓reduceIte,Nat.reduceEqDiff,initF, *] at a8
    clear hag hdep
    refine relStep_off rfl ?_
    rotate_left
    cases ho
    have d2:(gF 20)=lv:=hdep ⟨2,.data⟩ (by simp) rfl _ _ rfl rfl
    have d3:(gF 21)=.int .i64 (k:Nat):=hdep ⟨3,.data⟩ (by simp) rfl _ _ rfl rfl
    clear hag hdep
    refine relStep_off rfl ?_
    rotate_left
    cases ho
    have d4:(gF 22)=elemAt lv 1 k:=hdep ⟨4,.data⟩ (by simp) rfl _ _ rfl rfl
    clear hag hdep
    refine relStep_off rfl ?_
    rotate_left
    cases ho
    have d1:(gF 19)=intV b:=hdep ⟨1,.data⟩ (by simp) rfl _ _ rfl rfl
    have d5:(gF 23)=intV L[k]:=hdep ⟨5,.data⟩ (by simp) rfl _ _ rfl rfl
    clear hag hdep
    refine relStep_off rfl ?_
    rotate_left
    ·omega
    all_goals (repeat' first|(with_reducible first|exact⟨⟩|(refine gB ?_;intros)|refine gT ?_ ?_)|refine gs ?_|refine sxKeepA249 ?_)
   ·intro g9 w9 hx9 hR hag
    have⟨s9,n9,r9,z9⟩:=bg9 hx9
    have d0:(g9 18)=.agg #[hv,rv]:=hR 0 _ _ (by decide) rfl rfl
    have d6:(g9 24)=.agg #[intV b,intV L[k]]:=hR 6 _ _ (by decide) rfl rfl
    have a2:=hag.at 2 KR
    have a3:=hag.at 3 KR
    have a7:=hag.at 7 KR
    have a8:=hag.at 8 KR
    simp only[S5,↓reduceIte,Nat.reduceEqDiff,initF, *] at a2 a3 a7 a8
    clear hag hR
    simp only[List.drop_succ_cons,List.drop_zero]
    (repeat' first|(with_reducible first|exact⟨⟩|(refine gB ?_;intros)|refine gT ?_ ?_)|refine gs ?_|((with_reducible refine at_f 128 ?_);refine ret_k (hhs _ FR FR) λ_ _ _=>?_)|refine sxKeepA2410 ?_)
    refine next_k hk hlt ?_ FR
    (repeat' first|(with_reducible first|exact⟨⟩|(refine gB ?_;intros)|refine gT ?_ ?_)|refine gs ?_|refine sx ?_)
    show _=_
    rw[hnx'.out,hp.out,hb1];rfl
  ·rw[hb1] at hhs
   have hany:L.any (λh=>hasB x.replicas ⟨b,h⟩)=true:=List.any_eq_true.2 ⟨_,List.getElem_mem hlt,hb1⟩
   rw[hany]
   clear hany
   (repeat' first|((with_reducible refine wpd_at 5 ?_);refine wpd_hold ?_)|(with_reducible first|exact⟨⟩|(refine gB ?_;intros)|refine gT ?_ ?_)|refine gs ?_|refine sx ?_)
   unfold wpdH
   refine wpd_rel 7 (λiI v w9=>match iI with
    |0=>v=.agg #[hv,rv]
    |1=>v=intV b
    |2=>v=lv
    |3=>v=.int .i64 (k:Nat)
    |4=>v=elemAt lv 1 k
    |5=>v=intV L[k]
    |6=>v=.agg #[intV b,intV L[k]]
    |_=>False) KR KR KR ?_ ?_ ?_
   ·intro iI v w1 w2 hR hx9
    match iI,hR with
    |0,h|1,h|2,h|3,h|4,h|5,h|6,h=>exact h
   ·intro iI oO hi ho gF w9 hx9 hdep hag
    have⟨s9,n9,r9,z9⟩:=bg9 hx9
    rcases iI with _|_|_|_|_|_|_|iI
    cases ho
    have a3:=hag.at 3 KR
    simp only[S5,↓reduceIte,Nat.reduceEqDiff,initF, *] at a3
    clear hag hdep
    refine relStep_off rfl ?_
    rotate_left
    cases ho
    have a2:=hag.at 2 KR
    simp only[S5,↓reduceIte,Nat.reduceEqDiff,initF, *] at a2
    clear hag hdep
    refine relStep_off rfl ?_
    rotate_left
    cases ho
    have a7:=hag.at 7 KR
    simp only[S5,↓reduceIte,Nat.reduceEqDiff,initF, *] at a7
    clear hag hdep
    refine relStep_off rfl ?_
    rotate_left
    cases ho
    have a8:=hag.at 8 KR
    simp only[S5,↓reduceIte,Nat.reduceEqDiff,initF, *] at a8
    clear hag hdep
    refine relStep_off rfl ?_
    rotate_left
    cases ho
    have d2:(gF 20)=lv:=hdep ⟨2,.data⟩ (by simp) rfl _ _ rfl rfl
    have d3:(gF 21)=.int .i64 (k:Nat):=hdep ⟨3,.data⟩ (by simp) rfl _ _ rfl rfl
    clear hag hdep
    refine relStep_off rfl ?_
    rotate_left
    cases ho
    have d4:(gF 22)=elemAt lv 1 k:=hdep ⟨4,.data⟩ (by simp) rfl _ _ rfl rfl
    clear hag hdep
    refine relStep_off rfl ?_
    rotate_left
    cases ho
    have d1:(gF 19)=intV b:=hdep ⟨1,.data⟩ (by simp) rfl _ _ rfl rfl
    have d5:(gF 23)=intV L[k]:=hdep ⟨5,.data⟩ (by simp) rfl _ _ rfl rfl
    clear hag hdep
    refine relStep_off rfl ?_
    rotate_left
    ·omega
    all_goals (repeat' first|(with_reducible first|exact⟨⟩|(refine gB ?_;intros)|refine gT ?_ ?_)|refine gs ?_|refine sxKeepA249 ?_)
   ·intro g9 w9 hx9 hR hag
    have⟨s9,n9,r9,z9⟩:=bg9 hx9
    have d0:(g9 18)=.agg #[hv,rv]:=hR 0 _ _ (by decide) rfl rfl
    have d6:(g9 24)=.agg #[intV b,intV L[k]]:=hR 6 _ _ (by decide) rfl rfl
    have a2:=hag.at 2 KR
    have a3:=hag.at 3 KR
    have a7:=hag.at 7 KR
    have a8:=hag.at 8 KR
    simp only[S5,↓reduceIte,Nat.reduceEqDiff,initF, *] at a2 a3 a7 a8
    clear hag hR
    simp only[List.drop_succ_cons,List.drop_zero]
    (repeat' first|(with_reducible first|exact⟨⟩|(refine gB ?_;intros)|refine gT ?_ ?_)|refine gs ?_|((with_reducible refine at_f 128 ?_);refine ret_k (hhs _ FR FR) λ_ _ _=>?_)|refine sxKeepA2410 ?_)
 ·rintro g wk _ _ _ ⟨hi,hf,hp⟩
  simp(maxDischargeDepth:=3) only[U,↓reduceIte,Nat.reduceEqDiff, *] at hf
  (repeat' first|(with_reducible first|exact⟨⟩|(refine gB ?_;intros)|refine gT ?_ ?_)|refine gs ?_|refine sx ?_)
  have h9:=hp.out
  rw[List.take_length] at h9
  rw[h9]
theorem ref17inDomain(hB:B≤w.heap.size)(hs:SiteR w B u s)(hx0:WorldR w B hv rv x)(hlen:x.replicas.length<1000000000000){sv d n:Int}:Ret Tryz.prog 95 #[.agg (siteC u s).toArray,.agg #[hv,rv],intV sv,.int .u8 d,intV n] w (intV (((whereL x sv).filter λh=>domF s d h == n).length:Nat)):=by
 have⟨hn,hx⟩:=bg0 w
 have hs':=hs.sk hB
 have hx':=hx0.sk hB
 have hS:=hs'.2.2.2.2.2.2
 have hX:=hx'.2.2.2.2
 have hbw:Bl B w w:=Bl.refl hB
 have hh1:=hx0.h.one
 have hr1:=hx0.r.one
 (refine callsV_of Tryz.func95 rfl KR KR ?_;rw[Tryz.results95])
 (repeat' first|(with_reducible first|exact⟨⟩|(refine gB ?_;intros)|refine gT ?_ ?_)|refine gs ?_|refine sxKeepA240 ?_)
 refine call_k (ref13Where (svc:=sv) (B:=B) FR (hX _ FR) hlen) ?_
 rintro lv w1 n1 s1 hown
 have hv1:=hown.one
 have K:=(hown.sl1 (f:=intV)).k (Nat.le_refl _)
 have b1:Bl w1.heap.size w1 w1:=Bl.refl (Nat.le_refl _)
 have hm:=(hown.sl1 (f:=intV)).max_
 clear hown
 generalize whereL x sv=L at *
 (repeat' first|(with_reducible first|exact⟨⟩|(refine gB ?_;intros)|refine gT ?_ ?_)|refine gs ?_|refine sx ?_)
 refine loop_k (L.length) (λg0 k g _=>g 13=.int .i64 k∧(g 3=g0 3∧g 4=g0 4∧g 5=g0 5∧g 11=g0 11)∧g 12=.int .i64 ((((L.take k).filter λh=>domF s d h == n).length:Nat):Int)) KR (hm) ?_ ?_ ?_
 ·(repeat' first|(with_reducible first|exact⟨⟩|(refine gB ?_;intros)|refine gT ?_ ?_)|refine gs ?_|simp(maxDischargeDepth:=3) only[↓X,↓Y,↓Q,S1,↓reduceIte,Nat.reduceEqDiff,Nat.reduceAdd,Int.reduceLT,Int.reduceLE,Int.reduceNeg,Int.reduceBEq,Int.reduceBNe,Int.reduceEq,Nat.reduceLeDiff,Nat.reduceMul,Nat.reduceLT, *,List.take_zero,List.filter_nil]|simp(singlePass:=true) (maxDischargeDepth:=99) only[*,S2,Nat.reduceLT,List.take_zero,List.filter_nil])
 ·rintro k m g wk hk hlt _ _ _ hw ⟨hi,hf,hp⟩
  simp(maxDischargeDepth:=3) only[U,↓reduceIte,Nat.reduceEqDiff, *] at hf
  have hds:=λw' (h1:Bl B w w') (h3:B≤w'.heap.size)=>ref12DomainOf (d:=d) (h:=L[k]) h3 (hS w' h1)
  have hnx:(L.take (k+1)).filter (λh=>domF s d h == n)=(L.take k).filter (λh=>domF s d h == n)++if (domF s d L[k] == n)=true then[L[k]] else[]:=by
   rw[List.take_add_one,List.getElem?_eq_getElem hlt,Option.toList_some,List.filter_append,List.filter_cons];split<;>simp
  have hfl:=List.length_filter_le (λh=>domF s d h == n) (L.take k)
  rw[List.length_take] at hfl
  generalize (L.take k).filter (λh=>domF s d h == n)=F at *
  have hw1:IntKind.i64.wrap (((F.length:Nat):Int)+1)=((F.length+1:Nat):Int):=by rw[wrap_i64_id]<;>omega
  have hnx':Hid _:=hnx
  clear hnx hfl
  generalize domF s d L[k]=D at *
  by_cases hD:D=n
  ·have hz:(L.take (k+1)).filter (λh=>domF s d h == n)=F++[L[k]]:=by rw[hnx'.out,if_pos (by simpa using hD)]
   have hz':Hid _:=hz
   clear hz hnx'
   (repeat' first|(with_reducible first|exact⟨⟩|(refine gB ?_;intros)|refine gT ?_ ?_)|refine gs ?_|((with_reducible refine at_q 143 ?_);refine qret_k (λ_ _ _=>hds _ FR FR) ?_)|refine sxKeepA240 ?_)
   all_goals first|contradiction|refine next_k hk hlt ?_ FR
   (repeat' first|(with_reducible first|exact⟨⟩|(refine gB ?_;intros)|refine gT ?_ ?_)|refine gs ?_|refine sx ?_)
   rw[hz'.out,List.length_append];rfl
  ·have hz:(L.take (k+1)).filter (λh=>domF s d h == n)=F:=by rw[hnx'.out,if_neg (by simpa using hD),List.append_nil]
   have hz':Hid _:=hz
   clear hz hnx'
   (repeat' first|(with_reducible first|exact⟨⟩|(refine gB ?_;intros)|refine gT ?_ ?_)|refine gs ?_|((with_reducible refine at_q 143 ?_);refine qret_k (λ_ _ _=>hds _ FR FR) ?_)|refine sxKeepA240 ?_)
   all_goals first|contradiction|refine next_k hk hlt ?_ FR
   (repeat' first|(with_reducible first|exact⟨⟩|(refine gB ?_;intros)|refine gT ?_ ?_)|refine gs ?_|refine sx ?_)
   rw[hz'.out]
 ·rintro g wk _ _ _ ⟨hi,hf,hp⟩
  simp(maxDischargeDepth:=3) only[U,↓reduceIte,Nat.reduceEqDiff, *] at hf
  (repeat' first|(with_reducible first|exact⟨⟩|(refine gB ?_;intros)|refine gT ?_ ?_)|refine gs ?_|refine sxKeepA242 ?_)
def lonelyB(s:SiteD)(x:WorldD)(a:Int)(n:NearD):Bool:=(whereL x a).any λh=>!((whereL x n.service).any λq=>decide (0≤latF s h q)&&decide (latF s h q≤n.latency))
theorem any_next{α:Type}{p:α→Bool}{L:List α}{k:Nat}(h:k<L.length):(L.take (k+1)).any p=((L.take k).any p||p L[k]):=by
 rw[List.take_add_one,List.getElem?_eq_getElem h,Option.toList_some,List.any_append];simp
theorem ref17lonely(hB:B≤w.heap.size)(hs:SiteR w B u s)(hx0:WorldR w B hv rv x)(hlen:x.replicas.length<1000000000000){a:Int}{n:NearD}:Ret Tryz.prog 97 #[.agg (siteC u s).toArray,.agg #[hv,rv],intV a,nearV n] w (.bool (lonelyB s x a n)):=by
 have⟨hn,hx⟩:=bg0 w
 have hs':=hs.sk hB
 have hx':=hx0.sk hB
 have hS:=hs'.2.2.2.2.2.2
 have hX:=hx'.2.2.2.2
 have hbw:Bl B w w:=Bl.refl hB
 have hh1:=hx0.h.one
 have hr1:=hx0.r.one
 have hwh:=λw' (h1:Bl B w w') (h3:B≤w'.heap.size) (a:Int)=>ref13Where (svc:=a) h3 (hX w' h1) hlen
 replace hwh:Hid _:=hwh
 unfold lonelyB
 (refine callsV_of Tryz.func97 rfl KR KR ?_;rw[Tryz.results97])
 (repeat' first|((with_reducible refine wpd_at 1 ?_);refine wpd_hold ?_)|(with_reducible first|exact⟨⟩|(refine gB ?_;intros)|refine gT ?_ ?_)|refine gs ?_|refine sxKeepA2411 ?_)
 rename_i b4 w4 n4 k4 s4 q4 b5 w5 n5 k5 s5 q5 b7 w7 n7 k7 s7 q7
 unfold wpdH
 refine wpd_rel 7 (λiI v w9=>match iI with
  |0=>v=.agg #[hv,rv]
  |1=>v=intV a
  |2=>∃u0,v=u0∧Own w9 w7.heap.size 3 1 u0 ((whereL x a).map intC)
  |3=>v=.agg #[hv,rv]
  |4=>v=.pointer (some ⟨b7,0,none⟩)
  |5=>v=intV n.service
  |6=>∃u0,v=u0∧Own w9 w7.heap.size 3 1 u0 ((whereL x n.service).map intC)
  |_=>False) KR KR KR ?_ ?_ ?_
 ·intro iI v w1 w2 hR hx9
  match iI,hR with
  |0,h|1,h=>exact h
  |2,h=>exact(let ⟨u,e,o⟩:=h;⟨u,e,o.ext hx9⟩)
  |3,h|4,h|5,h=>exact h
  |6,h=>exact(let ⟨u,e,o⟩:=h;⟨u,e,o.ext hx9⟩)
 ·intro iI oO hi ho gF w9 hx9 hdep hag
  have⟨s9,n9,r9,z9⟩:=bg9 hx9
  rcases iI with _|_|_|_|_|_|_|iI
  cases ho
  have a5:=hag.at 5 KR
  simp only[S5,↓reduceIte,Nat.reduceEqDiff,initF, *] at a5
  clear hag hdep
  refine relStep_off rfl ?_
  rotate_left
  cases ho
  have a2:=hag.at 2 KR
  simp only[S5,↓reduceIte,Nat.reduceEqDiff,initF, *] at a2
  clear hag hdep
  refine relStep_off rfl ?_
  rotate_left
  ·cases ho
   have d0:(gF 15)=.agg #[hv,rv]:=hdep ⟨0,.data⟩ (by simp) rfl _ _ rfl rfl
   have d1:(gF 16)=intV a:=hdep ⟨1,.data⟩ (by simp) rfl _ _ rfl rfl
   clear hag hdep
   refine relStep_off rfl ?_
   (repeat' first|(with_reducible first|exact⟨⟩|(refine gB ?_;intros)|refine gT ?_ ?_)|refine gs ?_|refine sxKeepA2412 ?_)
   refine CallsV.mono (hwh.out _ FR FR a) λv w10 hh=>⟨hh.1,_,rfl,hh.2.more z9⟩
  cases ho
  have a5:=hag.at 5 KR
  simp only[S5,↓reduceIte,Nat.reduceEqDiff,initF, *] at a5
  clear hag hdep
  refine relStep_off rfl ?_
  rotate_left
  cases ho
  have a7:=hag.at 7 KR
  simp only[S5,↓reduceIte,Nat.reduceEqDiff,initF, *] at a7
  clear hag hdep
  refine relStep_off rfl ?_
  rotate_left
  cases ho
  have d4:(gF 19)=.pointer (some ⟨b7,0,none⟩):=hdep ⟨4,.data⟩ (by simp) rfl _ _ rfl rfl
  clear hag hdep
  refine relStep_off rfl ?_
  rotate_left
  ·cases ho
   have d3:(gF 18)=.agg #[hv,rv]:=hdep ⟨3,.data⟩ (by simp) rfl _ _ rfl rfl
   have d5:(gF 20)=intV n.service:=hdep ⟨5,.data⟩ (by simp) rfl _ _ rfl rfl
   clear hag hdep
   refine relStep_off rfl ?_
   (repeat' first|(with_reducible first|exact⟨⟩|(refine gB ?_;intros)|refine gT ?_ ?_)|refine gs ?_|refine sxKeepA2412 ?_)
   refine CallsV.mono (hwh.out _ FR FR n.service) λv w10 hh=>⟨hh.1,_,rfl,hh.2.more z9⟩
  ·omega
  all_goals (repeat' first|(with_reducible first|exact⟨⟩|(refine gB ?_;intros)|refine gT ?_ ?_)|refine gs ?_|refine sxKeepA2412 ?_)
 ·intro g9 w9 hx9 hR hag
  have⟨s9,n9,r9,z9⟩:=bg9 hx9
  have d2:∃u0,(g9 17)=u0∧Own w9 w7.heap.size 3 1 u0 ((whereL x a).map intC):=hR 2 _ _ (by decide) rfl rfl
  obtain⟨u2,e2,o2⟩:=d2
  have O2:=o2.one
  have d6:∃u0,(g9 21)=u0∧Own w9 w7.heap.size 3 1 u0 ((whereL x n.service).map intC):=hR 6 _ _ (by decide) rfl rfl
  obtain⟨u6,e6,o6⟩:=d6
  have O6:=o6.one
  have a4:=hag.at 4 KR
  have a7:=hag.at 7 KR
  simp only[S5,↓reduceIte,Nat.reduceEqDiff,initF, *] at a4 a7
  clear hag hR
  simp only[List.drop_succ_cons,List.drop_zero]
  have K2:=(o2.sl1 (f:=intV)).k (Nat.le_refl _)
  have K6:=(o6.sl1 (f:=intV)).k (Nat.le_refl _)
  have e9:Bl w9.heap.size w9 w9:=Bl.refl (Nat.le_refl _)
  have hm2:=(o2.sl1 (f:=intV)).max_
  have hm6:=(o6.sl1 (f:=intV)).max_
  have hlt0:=λw' (h1:Bl B w w') (h3:B≤w'.heap.size) (p q:Int)=>ref16Latency (w:=w') (a:=p) (b:=q) h3 (hS w' h1)
  replace hlt0:Hid _:=hlt0
  generalize whereL x a=L at *
  generalize whereL x n.service=M at *
  clear o2 o6 hwh
  (repeat' first|(with_reducible first|exact⟨⟩|(refine gB ?_;intros)|refine gT ?_ ?_)|refine gs ?_|refine sx ?_)
  refine loop_k (L.length) (λg0 k g _=>g 11=.int .i64 k∧(g 4=g0 4∧g 7=g0 7∧g 9=g0 9∧g 10=g0 10)∧Hid ((L.take k).any (λh=>!(M.any λq=>decide (0≤latF s h q)&&decide (latF s h q≤n.latency)))=false)) KR (hm2) ?_ ?_ ?_
  ·(repeat' first|(with_reducible first|exact⟨⟩|(refine gB ?_;intros)|refine gT ?_ ?_)|refine gs ?_|refine sxKeepA243 ?_)
   first|exact rfl|exact trivial
  ·rintro k m g wk hk hlt _ _ _ hw ⟨hi,hf,hp⟩
   simp(maxDischargeDepth:=3) only[U,↓reduceIte,Nat.reduceEqDiff, *] at hf
   have hnx:Hid _:=any_next (p:=λh=>!(M.any λq=>decide (0≤latF s h q)&&decide (latF s h q≤n.latency))) hlt
   rename_i hsk hbk
   have rk:=Ext.refl wk
   (repeat' first|(with_reducible first|exact⟨⟩|(refine gB ?_;intros)|refine gT ?_ ?_)|refine gs ?_|refine sx ?_)
   have ek:Bl wk.heap.size wk wk:=Bl.refl (Nat.le_refl _)
   obtain⟨P,hP⟩:∃P:Int→Bool,P=λq=>decide (0≤latF s L[k] q)&&decide (latF s L[k] q≤n.latency):=⟨_,rfl⟩
   replace hP:Hid _:=hP
   have hl9:=λw' h1 h3=>hlt0.out w' h1 h3 L[k]
   have hPq:Hid (∀q,P q=(decide (0≤latF s L[k] q)&&decide (latF s L[k] q≤n.latency))):=λq=>by rw[hP.out]
   have hnx2:Hid ((L.take (k+1)).any (λh=>!(M.any λq=>decide (0≤latF s h q)&&decide (latF s h q≤n.latency)))=!(M.any P)):=by
    show _=_
    rw[hnx.out,hp.out,hP.out,Bool.false_or]
   have hPe:Hid (M.any P=M.any λq=>decide (0≤latF s L[k] q)&&decide (latF s L[k] q≤n.latency)):=by rw[hP.out];exact rfl
   replace hl9:Hid _:=hl9
   clear hnx hp hP
   refine loop_k (M.length) (λg0 k g _=>g 13=.int .i64 k∧(g 4=g0 4∧g 7=g0 7∧g 9=g0 9∧g 10=g0 10∧g 11=g0 11)∧g 12=.bool ((M.take k).any P)) KR (hm6) ?_ ?_ ?_
   ·(repeat' first|(with_reducible first|exact⟨⟩|(refine gB ?_;intros)|refine gT ?_ ?_)|refine gs ?_|simp(maxDischargeDepth:=3) only[↓X,↓Y,↓Q,S1,↓reduceIte,Nat.reduceEqDiff,Nat.reduceAdd,Int.reduceLT,Int.reduceLE,Int.reduceNeg,Int.reduceBEq,Int.reduceBNe,Int.reduceEq,Nat.reduceLeDiff,Nat.reduceMul,Nat.reduceLT, *,List.take_zero,List.any_nil]|simp(singlePass:=true) (maxDischargeDepth:=99) only[*,S2,Nat.reduceLT,List.take_zero,List.any_nil])
   ·rintro j mj g wj hj hjt nj sj bj hwj ⟨hij,hfj,hpj⟩
    simp(maxDischargeDepth:=3) only[U,↓reduceIte,Nat.reduceEqDiff, *] at hfj
    have hnj:(M.take (j+1)).any P=((M.take j).any P||P M[j]):=any_next hjt
    have hlj:=λw' h1 h3=>hl9.out w' h1 h3 M[j]
    rw[hPq.out] at hnj
    generalize (M.take j).any P=z at *
    generalize latF s L[k] M[j]=D at *
    have hnj':Hid _:=hnj
    clear hnj
    cases z
    ·by_cases h0:0≤D
     ·by_cases h1:D≤n.latency
      ·(repeat' first|(with_reducible first|exact⟨⟩|(refine gB ?_;intros)|refine gT ?_ ?_)|refine gs ?_|((with_reducible refine at_q 144 ?_);refine qret_k (λ_ _ _=>hlj _ FR FR) ?_)|refine sxKeepA2411 ?_)
       refine next_k hj hjt ?_ FR
       (repeat' first|(with_reducible first|exact⟨⟩|(refine gB ?_;intros)|refine gT ?_ ?_)|refine gs ?_|refine sx ?_)
       rw[hnj'.out]
       simp[h0,h1]
      ·(repeat' first|(with_reducible first|exact⟨⟩|(refine gB ?_;intros)|refine gT ?_ ?_)|refine gs ?_|((with_reducible refine at_q 144 ?_);refine qret_k (λ_ _ _=>hlj _ FR FR) ?_)|refine sxKeepA2411 ?_)
       refine next_k hj hjt ?_ FR
       (repeat' first|(with_reducible first|exact⟨⟩|(refine gB ?_;intros)|refine gT ?_ ?_)|refine gs ?_|refine sx ?_)
       rw[hnj'.out]
       simp[h0,h1]
     ·(repeat' first|(with_reducible first|exact⟨⟩|(refine gB ?_;intros)|refine gT ?_ ?_)|refine gs ?_|((with_reducible refine at_q 144 ?_);refine qret_k (λ_ _ _=>hlj _ FR FR) ?_)|refine sxKeepA2411 ?_)
      refine next_k hj hjt ?_ FR
      (repeat' first|(with_reducible first|exact⟨⟩|(refine gB ?_;intros)|refine gT ?_ ?_)|refine gs ?_|refine sx ?_)
      rw[hnj'.out]
      simp[h0]
    ·(repeat' first|(with_reducible first|exact⟨⟩|(refine gB ?_;intros)|refine gT ?_ ?_)|refine gs ?_|((with_reducible refine at_q 144 ?_);refine qret_k (λ_ _ _=>hlj _ FR FR) ?_)|refine sxKeepA2411 ?_)
     refine next_k hj hjt ?_ FR
     (repeat' first|(with_reducible first|exact⟨⟩|(refine gB ?_;intros)|refine gT ?_ ?_)|refine gs ?_|refine sx ?_)
     rw[hnj'.out]
     simp
   ·rintro g wj nj sj bj ⟨hij,hfj,hpj⟩
    simp(maxDischargeDepth:=3) only[U,↓reduceIte,Nat.reduceEqDiff, *] at hfj
    rw[List.take_length] at hpj
    have rj:=Ext.refl wj
    cases hm9:M.any P
    ·have hany:L.any (λh=>!(M.any λq=>decide (0≤latF s h q)&&decide (latF s h q≤n.latency)))=true:=by
      rw[List.any_eq_true]
      refine⟨L[k],List.getElem_mem hlt,?_⟩
      rw[←hPe.out,hm9];rfl
     rw[hm9] at hpj
     rw[hany]
     clear hany
     (repeat' first|(with_reducible first|exact⟨⟩|(refine gB ?_;intros)|refine gT ?_ ?_)|refine gs ?_|refine sx ?_)
    ·rw[hm9] at hpj
     (repeat' first|(with_reducible first|exact⟨⟩|(refine gB ?_;intros)|refine gT ?_ ?_)|refine gs ?_|refine sx ?_)
     refine next_k hk hlt ?_ FR
     (repeat' first|(with_reducible first|exact⟨⟩|(refine gB ?_;intros)|refine gT ?_ ?_)|refine gs ?_|refine sx ?_)
     show _=_
     rw[hnx2.out,hm9];rfl
  ·rintro g wk _ _ _ ⟨hi,hf,hp⟩
   simp(maxDischargeDepth:=3) only[U,↓reduceIte,Nat.reduceEqDiff, *] at hf
   (repeat' first|(with_reducible first|exact⟨⟩|(refine gB ?_;intros)|refine gT ?_ ?_)|refine gs ?_|refine sx ?_)
   have h9:=hp.out
   rw[List.take_length] at h9
   rw[h9]
end
end Go.Proofs.YtphciegaokdolaaGreatDoor
