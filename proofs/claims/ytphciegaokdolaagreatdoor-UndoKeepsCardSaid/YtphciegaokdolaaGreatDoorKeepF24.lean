/- The document's answer, layer 17: add, hosts. -/
import Derived.Test.YtphciegaokdolaaGreatDoorKeepA24
import Derived.Test.YtphciegaokdolaaGreatDoorCut
namespace Go.Proofs.YtphciegaokdolaaGreatDoor
set_option linter.unusedSimpArgs false
set_option linter.unusedVariables false
open Go Go.RowKit
set_option maxRecDepth 100000
set_option linter.unusedSectionVars false
set_option maxHeartbeats 2000000
theorem sxKeepF241{p q:Prop}(hq:q)(h:p=q:=by first|(simp(maxDischargeDepth:=3) only[↓X,↓Y,↓Q,S1,↓reduceIte,Nat.reduceEqDiff,Nat.reduceAdd,Int.reduceLT,Int.reduceLE,Int.reduceNeg,Int.reduceBEq,Int.reduceBNe,Int.reduceEq,Nat.reduceLeDiff,Nat.reduceMul,Nat.reduceLT, *,siteC];try exact rfl)|(simp(singlePass:=true) (maxDischargeDepth:=99) only[*,S2,Nat.reduceLT,siteC];try exact rfl)):p:=h▸hq
theorem sxKeepF242{p q:Prop}(hq:q)(h:p=q:=by first|(simp(maxDischargeDepth:=3) only[↓X,↓Y,↓Q,S1,↓reduceIte,Nat.reduceEqDiff,Nat.reduceAdd,Int.reduceLT,Int.reduceLE,Int.reduceNeg,Int.reduceBEq,Int.reduceBNe,Int.reduceEq,Nat.reduceLeDiff,Nat.reduceMul,Nat.reduceLT, *,brokeV,brokeC];try exact rfl)|(simp(singlePass:=true) (maxDischargeDepth:=99) only[*,S2,Nat.reduceLT,brokeV,brokeC];try exact rfl)):p:=h▸hq
theorem sxKeepF243{p q:Prop}(hq:q)(h:p=q:=by first|(simp(maxDischargeDepth:=3) only[↓X,↓Y,↓Q,S1,↓reduceIte,Nat.reduceEqDiff,Nat.reduceAdd,Int.reduceLT,Int.reduceLE,Int.reduceNeg,Int.reduceBEq,Int.reduceBNe,Int.reduceEq,Nat.reduceLeDiff,Nat.reduceMul,Nat.reduceLT, *,List.take_zero,List.all_nil,List.any_nil];try exact rfl)|(simp(singlePass:=true) (maxDischargeDepth:=99) only[*,S2,Nat.reduceLT,List.take_zero,List.all_nil,List.any_nil];try exact rfl)):p:=h▸hq
abbrev OwnB(w:World)(B:Nat)(v:Value)(L:List BrokeD):Prop:=Own w B 64 3 v (L.map brokeC)
section
variable{w:World}{B:Nat}{lv:Value}{L:List BrokeD}
theorem blk_grown17{w':World}{c T:Nat}{z:List Value}(h:OwnB w B lv L)(hg:w.grownBy w' lv.ownBlock)(hb:Blk w c T z)(hne:T≠64):Blk w' c T z:=
 (hg.block c hb.lt λe1=>by
  rcases h.1.2 with ⟨rfl,_⟩|⟨g,cap,cur,rfl,_,hgc,_⟩
  ·simp[Value.ownBlock] at e1
  ·obtain rfl:c=g:=Option.some.inj e1
   have h2:=hgc.symm.trans hb
   simp only[Option.some.injEq,Obj.cells.injEq] at h2
   exact hne h2.2.1.symm).trans hb
theorem append17{b cp:Nat}{k:Value→World→Prop}(x:BrokeD)(hown:OwnB w B lv L)(hb:Blk w b 64 (brokeC x))(hbound:L.length<1000000000000)(hB:B≤w.heap.size)
 (h:∀v' w',Now w'→Sa B w w'→OwnB w' B v' (L++[x])→(∀c T z,Blk w c T z→T≠64→Blk w' c T z)→k v' w'):appX Tryz.prog 71 71 71 lv (.slice (some ⟨b,0,none⟩) 1 cp) w k:=by
 refine append_row (e:=64) (sz:=3) (by_:=24) (z:=.agg #[.int .u8 0,.int .i64 0,.int .i64 0]) (ns:=[brokeC x]) KR KR rfl (by decide) hown (by simpa using hb) (by simp[brokeC]) (by simpa using brokeC_one x) rfl ?_ hB λv' w' ho hg hbl hd=>?_
 ·simp only[List.length_map,List.length_cons,List.length_nil,Nat.zero_add]
  omega
 ·exact h v' w' trivial (sa_of hbl) (by show Own w' B _ 3 v' ((L++[x]).map brokeC);rw[List.map_append];exact ho) λc T z hz hne=>blk_grown17 hown hg hz hne
theorem ref17add(hB:B≤w.heap.size)(hown:OwnB w B lv L)(hbound:L.length<1000000000000){is:Bool}{k a b:Int}:CallsV Tryz.prog 91 #[lv,.bool is,.int .u8 k,intV a,intV b] w λv w'=>Bl B w w'∧OwnB w' B v (addB is ⟨k,a,b⟩ L)∧Hid (∀c T z,Blk w c T z→T≠64→Blk w' c T z):=by
 have⟨hn,hx⟩:=bg0 w
 have hlv:=hown.one
 have hbw:Bl B w w:=Bl.refl hB
 have hownx:Hid (∀w',Ext w w'→OwnB w' B lv L):=λw' h=>hown.ext h
 unfold addB
 clear hown
 (refine callsV_of Tryz.func91 rfl KR KR ?_;rw[Tryz.results91])
 cases is
 ·simp only[Bool.false_eq_true,if_false]
  (repeat' first|(with_reducible first|exact⟨⟩|(refine gB ?_;intros)|refine gT ?_ ?_)|refine gs ?_|refine sx ?_)
  exact⟨hownx.out _ hx,λc T z h _=>h.ext hx⟩
 ·simp only[if_true]
  (repeat' first|(with_reducible first|exact⟨⟩|(refine gB ?_;intros)|refine gT ?_ ?_)|refine gs ?_|simp(maxDischargeDepth:=3) only[↓X,↓Y,↓Q,S1,↓reduceIte,Nat.reduceEqDiff,Nat.reduceAdd,Int.reduceLT,Int.reduceLE,Int.reduceNeg,Int.reduceBEq,Int.reduceBNe,Int.reduceEq,Nat.reduceLeDiff,Nat.reduceMul,Nat.reduceLT, *,putAt,List.set_cons_zero,List.set_cons_succ,List.length_cons,List.length_nil,Nat.reduceLeDiff,idxOk,flatP,Nat.reduceMul,Nat.reduceLT]|simp(singlePass:=true) (maxDischargeDepth:=99) only[*,S2,Nat.reduceLT,putAt,List.set_cons_zero,List.set_cons_succ,List.length_cons,List.length_nil,Nat.reduceLeDiff,idxOk,flatP,Nat.reduceMul,Nat.reduceLT])
  rename_i bs ws ns ks ss qs
  have hx1:Hid (Ext w ws):=(FR:Ext w ws)
  refine append17 ⟨k,a,b⟩ (hownx.out _ FR) (ks.2.1 _ FR) hbound FR λv2 w2 n2 s2 hown hkeep=>?_
  have hv2:=hown.one
  have hO:Hid _:=hown
  have hK:Hid (∀c T z,Blk w c T z→T≠64→Blk w2 c T z):=λc T z h hne=>hkeep c T z (h.ext hx1.out) hne
  clear hown hkeep
  (repeat' first|(with_reducible first|exact⟨⟩|(refine gB ?_;intros)|refine gT ?_ ?_)|refine gs ?_|refine sx ?_)
  first|exact⟨hO.out,hK.out⟩|exact hO.out|trace_state
theorem add_k{is:Bool}{k a b:Int}{K:Value→World→Prop}(hB:B≤w.heap.size)(hown:OwnB w B lv L)(hbound:L.length<1000000000000)(hk:∀v w',Now w'→Sa B w w'→OwnB w' B v (addB is ⟨k,a,b⟩ L)→K v w'):CallsV Tryz.prog 91 #[lv,.bool is,.int .u8 k,intV a,intV b] w K:=
 CallsV.mono (ref17add hB hown hbound) λv w' hh=>hk v w' trivial (sa_of hh.1.2) hh.2.1
theorem add_kb{is:Bool}{k a b:Int}{K:Value→World→Prop}(hB:B≤w.heap.size)(hown:OwnB w B lv L)(hbound:L.length<1000000000000)(hk:∀v w',Now w'→Sa B w w'→OwnB w' B v (addB is ⟨k,a,b⟩ L)→Hid (∀c T z,Blk w c T z→T≠64→Blk w' c T z)→K v w'):CallsV Tryz.prog 91 #[lv,.bool is,.int .u8 k,intV a,intV b] w K:=
 CallsV.mono (ref17add hB hown hbound) λv w' hh=>hk v w' trivial (sa_of hh.1.2) hh.2.1 hh.2.2
end
def flagL(c:Nat→Bool)(f:Nat→BrokeD)(L0:List BrokeD):Nat→List BrokeD
 |0=>L0
 |n+1=>addB (c n) (f n) (flagL c f L0 n)
theorem flag_len{c:Nat→Bool}{f:Nat→BrokeD}{L0:List BrokeD}:∀n,(flagL c f L0 n).length≤L0.length+n
 |0=>Nat.le_refl _
 |n+1=>by
  have:=flag_len (c:=c) (f:=f) (L0:=L0) n
  rw[flagL,addB]
  split
  ·rw[List.length_append,List.length_singleton];omega
  ·omega
theorem mem_flag{c:Nat→Bool}{f:Nat→BrokeD}{L0:List BrokeD}{z:BrokeD}:∀n,z∈flagL c f L0 n↔z∈L0∨∃i,i<n∧c i=true∧z=f i
 |0=>⟨.inl,λh=>h.elim id λ⟨i,h,_⟩=>absurd h (Nat.not_lt_zero i)⟩
 |n+1=>by
  rw[flagL,addB]
  have ih:=mem_flag (c:=c) (f:=f) (L0:=L0) (z:=z) n
  constructor
  ·intro h
   split at h
   ·rename_i hc
    rcases List.mem_append.1 h with h|h
    ·rcases ih.1 h with h|⟨i,h1,h2⟩
     ·exact .inl h
     ·exact .inr ⟨i,by omega,h2⟩
    ·exact .inr ⟨n,by omega,hc,List.mem_singleton.1 h⟩
   ·rcases ih.1 h with h|⟨i,h1,h2⟩
    ·exact .inl h
    ·exact .inr ⟨i,by omega,h2⟩
  ·rintro(h|⟨i,h1,h2,h3⟩)
   ·have:=ih.2 (.inl h)
    split
    ·exact List.mem_append.2 (.inl this)
    ·exact this
   ·rcases Nat.lt_succ_iff_lt_or_eq.1 h1 with h4|rfl
    ·have:=ih.2 (.inr ⟨i,h4,h2,h3⟩)
     split
     ·exact List.mem_append.2 (.inl this)
     ·exact this
    ·rw[if_pos h2]
     exact List.mem_append.2 (.inr (List.mem_singleton.2 h3))
def coresC(s:SiteD)(wl:List ServiceD)(x:WorldD)(i:Nat):Bool:=decide ((hostS s i).cores<usedI wl x i)
def phaseC(wl:List ServiceD)(x:WorldD)(i:Nat):Bool:=decide (0<usedI wl x i)&&decide (2≤(hostAt x i).phase)
def hostsB(s:SiteD)(wl:List ServiceD)(x:WorldD):List BrokeD:=flagL (phaseC wl x) (λi=>⟨2,i,0⟩) (flagL (coresC s wl x) (λi=>⟨1,i,0⟩) [] s.hosts.length) s.hosts.length
section
variable{w:World}{B:Nat}{u:SiteVs}{s:SiteD}{wv hv rv:Value}{l:List SrvV}{x:WorldD}
theorem ref17hosts(hB:B≤w.heap.size)(hs:SiteR w B u s)(hl:WishR w B wv l)(hx0:WorldR w B hv rv x)(hval:validB s (l.map (·.x)) x=true):CallsV Tryz.prog 50 #[.agg (siteC u s).toArray,.agg #[wv],.agg #[hv,rv]] w λv w'=>Ext w w'∧OwnB w' w.heap.size v (hostsB s (l.map (·.x)) x):=by
 have⟨hn,hx⟩:=bg0 w
 have hs':=hs.sk hB
 have hl':=hl.sk hB
 have hx':=hx0.sk hB
 have hS:=hs'.2.2.2.2.2.2
 have hW:=hl'.2.2
 have hX:=hx'.2.2.2.2
 have hbw:Bl B w w:=Bl.refl hB
 have hF:=hs.h.fk
 have hxF:=hx0.h.fk
 have hh1:=hx0.h.one
 have hr1:=hx0.r.one
 have hm:=hs.h.max_
 have hvp:=valid_parts hval
 have h16:Hid (s.hosts.length≤16):=by
  have:=hvp.1
  simp only[siteB,sizesB,btw,Bool.and_eq_true,decide_eq_true_eq] at this
  show _≤_
  omega
 have hxl:Hid (x.hosts.length=s.hosts.length):=hvp.2.2.1
 have hu:=λw' (h1:Bl B w w') (h3:B≤w'.heap.size) (i:Nat)=>ref13Used (host:=(i:Int)) h3 (hW w' h1) (hX w' h1)
 replace hu:Hid _:=hu
 unfold hostsB
 clear hvp hval
 (refine callsV_of Tryz.func50 rfl KR KR ?_;rw[Tryz.results50])
 (repeat' first|(with_reducible first|exact⟨⟩|(refine gB ?_;intros)|refine gT ?_ ?_)|refine gs ?_|refine sxKeepF241 ?_)
 rename_i b4 w4 n4 k4 s4 q4 b5 w5 n5 k5 s5 q5 b6 w6 n6 k6 s6 q6
 have r6:=Ext.refl w6
 have hww:w.heap.size≤w6.heap.size:=FR
 obtain⟨c1,hc1⟩:∃c1,c1=coresC s (l.map (·.x)) x:=⟨_,rfl⟩
 rw[←hc1]
 replace hc1:Hid _:=hc1
 refine loop_g s.hosts.length (λg0 k g w'=>g 8=.int .i64 k∧(g 3=g0 3∧g 4=g0 4∧g 5=g0 5)∧∃lv,g 7=lv∧Hid (Bl w6.heap.size w6 w'∧OwnB w' w6.heap.size lv (flagL c1 (λi=>⟨1,i,0⟩) [] k))) KR ?_ ?_ ?_
 ·(repeat' first|(with_reducible first|exact⟨⟩|(refine gB ?_;intros)|refine gT ?_ ?_)|refine gs ?_|refine sx ?_)
  exact⟨_,rfl,Bl.refl (Nat.le_refl _),Own.nil _ _ _ _⟩
 ·rintro k m g wk hk hlt nk ⟨hi,hf,lv,hlv,hp⟩
  simp(maxDischargeDepth:=3) only[U,↓reduceIte,Nat.reduceEqDiff, *] at hf
  obtain⟨hbl,hown⟩:=hp.out
  have sa1:=sa_of hbl.2
  have hlv1:=hown.one
  have hwj:IntKind.i64.wrap ((k:Int)+1)=((k+1:Nat):Int):=by have:=h16.out;rw[wrap_i64_id]<;>omega
  have huk:=λw' h1 h3=>hu.out w' h1 h3 k
  have hck:Hid (c1 k=decide ((s.hosts[k]).cores<usedI (l.map (·.x)) x k)):=by rw[hc1.out];show coresC s (l.map (·.x)) x k=_;rw[coresC,hostS_at hlt]
  have hownx:Hid (∀w',Ext wk w'→OwnB w' w6.heap.size lv (flagL c1 (λi=>⟨1,i,0⟩) [] k)):=λw' h=>hown.ext h
  have hfl:Hid ((flagL c1 (λi=>(⟨1,i,0⟩:BrokeD)) [] k).length<1000000000000):=by
   have:=flag_len (c:=c1) (f:=λi=>(⟨1,i,0⟩:BrokeD)) (L0:=[]) k
   have:=h16.out
   show _<_
   simp only[List.length_nil] at *
   omega
  have rk:=Ext.refl wk
  generalize usedI (l.map (·.x)) x (k:Int)=U at *
  clear hp hown
  (repeat' first|((with_reducible refine wpd_at 5 ?_);refine wpd_cmid (m:=13) KR KR KR rfl ?_)|(with_reducible first|exact⟨⟩|(refine gB ?_;intros)|refine gT ?_ ?_)|refine gs ?_|((with_reducible refine at_q 92 ?_);refine qret_k (λ_ _ _=>huk _ FR FR) ?_)|simp(maxDischargeDepth:=3) only[↓X,↓Y,↓Q,S1,↓reduceIte,Nat.reduceEqDiff,Nat.reduceAdd,Int.reduceLT,Int.reduceLE,Int.reduceNeg,Int.reduceBEq,Int.reduceBNe,Int.reduceEq,Nat.reduceLeDiff,Nat.reduceMul,Nat.reduceLT, *,hostV]|simp(singlePass:=true) (maxDischargeDepth:=99) only[*,S2,Nat.reduceLT,hostV])
  rename_i wq nq sq
  rw[←hck.out]
  refine add_k (B:=w6.heap.size) (is:=c1 k) FR (hownx.out _ FR) hfl.out λv2 w2 n2 s2 hO=>?_
  have hv2:=hO.one
  have hOx:Hid (∀w',Ext w2 w'→OwnB w' w6.heap.size v2 (flagL c1 (λi=>⟨1,i,0⟩) [] (k+1))):=λw' h=>hO.ext h
  have hbl2:Bl w6.heap.size w6 w2:=FR
  have r2:=Ext.refl w2
  clear hO
  (repeat' first|(with_reducible first|exact⟨⟩|(refine gB ?_;intros)|refine gT ?_ ?_)|refine gs ?_|refine sx ?_)
  refine next_g hk hlt ?_
  (repeat' first|(with_reducible first|exact⟨⟩|(refine gB ?_;intros)|refine gT ?_ ?_)|refine gs ?_|refine sx ?_)
  refine⟨_,rfl,?_⟩
  first|exact⟨FR,hOx.out _ FR⟩|exact hOx.out _ FR
 ·rintro g wk nk ⟨hi,hf,lv,hlv,hp⟩
  simp(maxDischargeDepth:=3) only[U,↓reduceIte,Nat.reduceEqDiff, *] at hf
  obtain⟨hbl,hown⟩:=hp.out
  have sa1:=sa_of hbl.2
  have hlv1:=hown.one
  have hnl:¬s.hosts.length<s.hosts.length:=Nat.lt_irrefl _
  have hO:Hid _:=hown
  have hbl1:Hid (Bl w6.heap.size w6 wk):=hbl
  have hL1:=flag_len (c:=c1) (f:=λi=>(⟨1,i,0⟩:BrokeD)) (L0:=[]) s.hosts.length
  rw[List.length_nil,Nat.zero_add] at hL1
  generalize flagL c1 (λi=>(⟨1,i,0⟩:BrokeD)) [] s.hosts.length=L1 at *
  replace hL1:Hid _:=hL1
  obtain⟨c2,hc2⟩:∃c2,c2=phaseC (l.map (·.x)) x:=⟨_,rfl⟩
  rw[←hc2]
  replace hc2:Hid _:=hc2
  clear hp hown
  (repeat' first|(with_reducible first|exact⟨⟩|(refine gB ?_;intros)|refine gT ?_ ?_)|refine gs ?_|refine sx ?_)
  refine loop_g s.hosts.length (λg0 k g w'=>g 9=.int .i64 k∧(g 3=g0 3∧g 4=g0 4∧g 5=g0 5)∧∃lv,g 7=lv∧Hid (Bl w6.heap.size w6 w'∧OwnB w' w6.heap.size lv (flagL c2 (λi=>⟨2,i,0⟩) L1 k))) KR ?_ ?_ ?_
  ·(repeat' first|(with_reducible first|exact⟨⟩|(refine gB ?_;intros)|refine gT ?_ ?_)|refine gs ?_|refine sx ?_)
   first|exact⟨_,rfl,hbl1.out,hO.out⟩|exact⟨_,rfl,hO.out⟩
  ·clear hi hlv hlv1 hO hbl1 hbl sa1 hnl
   rintro k m g wk hk hlt nk ⟨hi,hf,lv,hlv,hp⟩
   simp(maxDischargeDepth:=3) only[U,↓reduceIte,Nat.reduceEqDiff, *] at hf
   obtain⟨hbl,hown⟩:=hp.out
   have sa1:=sa_of hbl.2
   have hlv1:=hown.one
   have hwj:IntKind.i64.wrap ((k:Int)+1)=((k+1:Nat):Int):=by have:=h16.out;rw[wrap_i64_id]<;>omega
   have huk:=λw' h1 h3=>hu.out w' h1 h3 k
   have hkx:k<x.hosts.length:=by have:=hxl.out;omega
   have hck:Hid (c2 k=(decide (0<usedI (l.map (·.x)) x k)&&decide (2≤(x.hosts[k]).phase))):=by rw[hc2.out];show phaseC (l.map (·.x)) x k=_;rw[phaseC];simp[hostAt,hkx]
   have hownx:Hid (∀w',Ext wk w'→OwnB w' w6.heap.size lv (flagL c2 (λi=>⟨2,i,0⟩) L1 k)):=λw' h=>hown.ext h
   have hfl:Hid ((flagL c2 (λi=>(⟨2,i,0⟩:BrokeD)) L1 k).length<1000000000000):=by
    have:=flag_len (c:=c2) (f:=λi=>(⟨2,i,0⟩:BrokeD)) (L0:=L1) k
    have:=h16.out
    have:=hL1.out
    show _<_
    omega
   have rk:=Ext.refl wk
   generalize usedI (l.map (·.x)) x (k:Int)=U at *
   clear hp hown
   (repeat' first|(with_reducible first|exact⟨⟩|(refine gB ?_;intros)|refine gT ?_ ?_)|refine gs ?_|((with_reducible refine at_f 92 ?_);refine ret_k (huk _ FR FR) λ_ _ _=>?_)|simp(maxDischargeDepth:=3) only[↓X,↓Y,↓Q,S1,↓reduceIte,Nat.reduceEqDiff,Nat.reduceAdd,Int.reduceLT,Int.reduceLE,Int.reduceNeg,Int.reduceBEq,Int.reduceBNe,Int.reduceEq,Nat.reduceLeDiff,Nat.reduceMul,Nat.reduceLT, *,stateV]|simp(singlePass:=true) (maxDischargeDepth:=99) only[*,S2,Nat.reduceLT,stateV])
   ·rename_i wq nq sq h0
    have e:c2 k=decide (2≤(x.hosts[k]).phase):=by rw[hck.out];simp[h0]
    refine add_k (B:=w6.heap.size) (is:=decide (2≤(x.hosts[k]).phase)) FR (hownx.out _ FR) hfl.out λv2 w2 n2 s2 hO=>?_
    rw[←e] at hO
    have hv2:=hO.one
    have hOx:Hid (∀w',Ext w2 w'→OwnB w' w6.heap.size v2 (flagL c2 (λi=>⟨2,i,0⟩) L1 (k+1))):=λw' h=>hO.ext h
    have hbl2:Bl w6.heap.size w6 w2:=FR
    have r2:=Ext.refl w2
    clear hO
    (repeat' first|(with_reducible first|exact⟨⟩|(refine gB ?_;intros)|refine gT ?_ ?_)|refine gs ?_|refine sx ?_)
    refine next_g hk hlt ?_
    (repeat' first|(with_reducible first|exact⟨⟩|(refine gB ?_;intros)|refine gT ?_ ?_)|refine gs ?_|refine sx ?_)
    refine⟨_,rfl,?_⟩
    first|exact⟨FR,hOx.out _ FR⟩|exact hOx.out _ FR
   ·rename_i wq nq sq h0
    have e:c2 k=false:=by rw[hck.out];simp[h0]
    refine add_k (B:=w6.heap.size) (is:=false) FR (hownx.out _ FR) hfl.out λv2 w2 n2 s2 hO=>?_
    rw[←e] at hO
    have hv2:=hO.one
    have hOx:Hid (∀w',Ext w2 w'→OwnB w' w6.heap.size v2 (flagL c2 (λi=>⟨2,i,0⟩) L1 (k+1))):=λw' h=>hO.ext h
    have hbl2:Bl w6.heap.size w6 w2:=FR
    have r2:=Ext.refl w2
    clear hO
    (repeat' first|(with_reducible first|exact⟨⟩|(refine gB ?_;intros)|refine gT ?_ ?_)|refine gs ?_|refine sx ?_)
    refine next_g hk hlt ?_
    (repeat' first|(with_reducible first|exact⟨⟩|(refine gB ?_;intros)|refine gT ?_ ?_)|refine gs ?_|refine sx ?_)
    refine⟨_,rfl,?_⟩
    first|exact⟨FR,hOx.out _ FR⟩|exact hOx.out _ FR
  ·rintro g wk nk ⟨hi,hf,lv,hlv,hp⟩
   simp(maxDischargeDepth:=3) only[U,↓reduceIte,Nat.reduceEqDiff, *] at hf
   obtain⟨hbl,hown⟩:=hp.out
   have sa1:=sa_of hbl.2
   have hlv1:=hown.one
   have hnl:¬s.hosts.length<s.hosts.length:=Nat.lt_irrefl _
   have hO:Hid _:=hown
   have hxw:Ext w wk:=FR
   clear hp hown
   (repeat' first|(with_reducible first|exact⟨⟩|(refine gB ?_;intros)|refine gT ?_ ?_)|refine gs ?_|refine sx ?_)
   exact hO.out.more hww
end
set_option maxHeartbeats 4000000
def feedS(s:SiteD)(i:Int):FeedD:=(s.feeds[i.toNat]?).getD ⟨0⟩
def loopS(s:SiteD)(i:Int):LoopD:=(s.loops[i.toNat]?).getD ⟨0,0⟩
theorem feedS_at{s:SiteD}{i:Nat}(h:i<s.feeds.length):feedS s (i:Int)=s.feeds[i]:=by simp[feedS,h]
theorem loopS_at{s:SiteD}{i:Nat}(h:i<s.loops.length):loopS s (i:Int)=s.loops[i]:=by simp[loopS,h]
def breakC(s:SiteD)(wl:List ServiceD)(x:WorldD)(i:Nat):Bool:=decide ((breakerS s i).limit<breakF s wl x i)
def feedC(s:SiteD)(wl:List ServiceD)(x:WorldD)(i:Nat):Bool:=decide ((feedS s i).limit<feedF s wl x i)
def loopC(s:SiteD)(wl:List ServiceD)(x:WorldD)(i:Nat):Bool:=decide ((loopS s i).carry<heatF s wl x i)
def loadsB(s:SiteD)(wl:List ServiceD)(x:WorldD):List BrokeD:=flagL (loopC s wl x) (λi=>⟨10,i,0⟩) (flagL (feedC s wl x) (λi=>⟨9,i,0⟩) (flagL (breakC s wl x) (λi=>⟨8,i,0⟩) [] s.breakers.length) s.feeds.length) s.loops.length
section
variable{w:World}{B:Nat}{u:SiteVs}{s:SiteD}{wv hv rv:Value}{l:List SrvV}{x:WorldD}
theorem ref17loads(hB:B≤w.heap.size)(hs:SiteR w B u s)(hl:WishR w B wv l)(hx0:WorldR w B hv rv x)(hval0:validB s (l.map (·.x)) x=true):CallsV Tryz.prog 52 #[.agg (siteC u s).toArray,.agg #[wv],.agg #[hv,rv]] w λv w'=>Ext w w'∧OwnB w' w.heap.size v (loadsB s (l.map (·.x)) x):=by
 have⟨hn,hx⟩:=bg0 w
 have hs':=hs.sk hB
 have hl':=hl.sk hB
 have hx':=hx0.sk hB
 have hS:=hs'.2.2.2.2.2.2
 have hW:=hl'.2.2
 have hX:=hx'.2.2.2.2
 have hbw:Bl B w w:=Bl.refl hB
 have fF:=hs.f.fk
 have bF:=hs.b.fk
 have lF:=hs.l.fk
 have hh1:=hx0.h.one
 have hr1:=hx0.r.one
 have h16:Hid (s.breakers.length≤8∧s.feeds.length≤4∧s.loops.length≤4):=by
  have:=(valid_parts hval0).1
  simp only[siteB,sizesB,btw,Bool.and_eq_true,decide_eq_true_eq] at this
  show _∧_∧_
  omega
 have hval:Hid (validB s (l.map (·.x)) x=true):=hval0
 unfold loadsB
 clear hval0
 (refine callsV_of Tryz.func52 rfl KR KR ?_;rw[Tryz.results52])
 (repeat' first|(with_reducible first|exact⟨⟩|(refine gB ?_;intros)|refine gT ?_ ?_)|refine gs ?_|refine sxKeepF241 ?_)
 rename_i b4 w4 n4 k4 s4 q4 b5 w5 n5 k5 s5 q5 b6 w6 n6 k6 s6 q6
 have r6:=Ext.refl w6
 have hww:w.heap.size≤w6.heap.size:=FR
 obtain⟨c1,hc1⟩:∃c1,c1=breakC s (l.map (·.x)) x:=⟨_,rfl⟩
 rw[←hc1]
 replace hc1:Hid _:=hc1
 refine loop_g s.breakers.length (λg0 k g w'=>g 8=.int .i64 k∧(g 3=g0 3∧g 4=g0 4∧g 5=g0 5)∧∃lv,g 7=lv∧Hid (Bl w6.heap.size w6 w'∧OwnB w' w6.heap.size lv (flagL c1 (λi=>⟨8,i,0⟩) [] k))) KR ?_ ?_ ?_
 ·(repeat' first|(with_reducible first|exact⟨⟩|(refine gB ?_;intros)|refine gT ?_ ?_)|refine gs ?_|refine sx ?_)
  exact⟨_,rfl,Bl.refl (Nat.le_refl _),Own.nil _ _ _ _⟩
 ·skip
  rintro k m g wk hk hlt nk ⟨hi,hf,lv,hlv,hp⟩
  simp(maxDischargeDepth:=3) only[U,↓reduceIte,Nat.reduceEqDiff, *] at hf
  obtain⟨hbl,hown⟩:=hp.out
  have sa1:=sa_of hbl.2
  have hlv1:=hown.one
  have hwj:IntKind.i64.wrap ((k:Int)+1)=((k+1:Nat):Int):=by have:=h16.out;rw[wrap_i64_id]<;>omega
  have huk:=λw' (h1:Bl B w w') (h3:B≤w'.heap.size)=>ref14OfBreaker (r:=(k:Int)) h3 (hS w' h1) (hW w' h1) (hX w' h1) hval.out
  have hck:Hid (c1 k=decide ((s.breakers[k]).limit<breakF s (l.map (·.x)) x k)):=by rw[hc1.out];show breakC s (l.map (·.x)) x k=_;rw[breakC,breakerS_at hlt]
  have hownx:Hid (∀w',Ext wk w'→OwnB w' w6.heap.size lv (flagL c1 (λi=>⟨8,i,0⟩) [] k)):=λw' h=>hown.ext h
  have hfl:Hid ((flagL c1 (λi=>(⟨8,i,0⟩:BrokeD)) [] k).length<1000000000000):=by
   have:=flag_len (c:=c1) (f:=λi=>(⟨8,i,0⟩:BrokeD)) (L0:=[]) k
   have:=h16.out
   show _<_
   simp only[List.length_nil] at *
   omega
  have rk:=Ext.refl wk
  generalize breakF s (l.map (·.x)) x (k:Int)=U at *
  clear hp hown
  (repeat' first|((with_reducible refine wpd_at 5 ?_);refine wpd_cmid (m:=14) KR KR KR rfl ?_)|(with_reducible first|exact⟨⟩|(refine gB ?_;intros)|refine gT ?_ ?_)|refine gs ?_|((with_reducible refine at_q 99 ?_);refine qret_k (λ_ _ _=>huk _ FR FR) ?_)|simp(maxDischargeDepth:=3) only[↓X,↓Y,↓Q,S1,↓reduceIte,Nat.reduceEqDiff,Nat.reduceAdd,Int.reduceLT,Int.reduceLE,Int.reduceNeg,Int.reduceBEq,Int.reduceBNe,Int.reduceEq,Nat.reduceLeDiff,Nat.reduceMul,Nat.reduceLT, *,siteC,breakerV]|simp(singlePass:=true) (maxDischargeDepth:=99) only[*,S2,Nat.reduceLT,siteC,breakerV])
  rename_i wq nq sq
  rw[←hck.out]
  refine add_k (B:=w6.heap.size) (is:=c1 k) FR (hownx.out _ FR) hfl.out λv2 w2 n2 s2 hO=>?_
  have hv2:=hO.one
  have hOx:Hid (∀w',Ext w2 w'→OwnB w' w6.heap.size v2 (flagL c1 (λi=>⟨8,i,0⟩) [] (k+1))):=λw' h=>hO.ext h
  have hbl2:Bl w6.heap.size w6 w2:=FR
  have r2:=Ext.refl w2
  clear hO
  (repeat' first|(with_reducible first|exact⟨⟩|(refine gB ?_;intros)|refine gT ?_ ?_)|refine gs ?_|refine sx ?_)
  refine next_g hk hlt ?_
  (repeat' first|(with_reducible first|exact⟨⟩|(refine gB ?_;intros)|refine gT ?_ ?_)|refine gs ?_|refine sx ?_)
  refine⟨_,rfl,?_⟩
  first|exact⟨FR,hOx.out _ FR⟩|exact hOx.out _ FR
 ·rintro g wk nk ⟨hi,hf,lv,hlv,hp⟩
  simp(maxDischargeDepth:=3) only[U,↓reduceIte,Nat.reduceEqDiff, *] at hf
  obtain⟨hbl,hown⟩:=hp.out
  have sa1:=sa_of hbl.2
  have hlv1:=hown.one
  have hnl:¬s.breakers.length<s.breakers.length:=Nat.lt_irrefl _
  have hO:Hid _:=hown
  have hbl1:Hid (Bl w6.heap.size w6 wk):=hbl
  have hL10:=flag_len (c:=c1) (f:=λi=>(⟨8,i,0⟩:BrokeD)) (L0:=[]) s.breakers.length
  generalize flagL c1 (λi=>(⟨8,i,0⟩:BrokeD)) [] s.breakers.length=L1 at *
  have hL1:Hid (L1.length≤8):=by have:=h16.out;show _≤_;(try simp only[List.length_nil] at *);omega
  clear hp hown hL10
  (repeat' first|(with_reducible first|exact⟨⟩|(refine gB ?_;intros)|refine gT ?_ ?_)|refine gs ?_|refine sx ?_)
  obtain⟨c2,hc2⟩:∃c2,c2=feedC s (l.map (·.x)) x:=⟨_,rfl⟩
  rw[←hc2]
  replace hc2:Hid _:=hc2
  refine loop_g s.feeds.length (λg0 k g w'=>g 9=.int .i64 k∧(g 3=g0 3∧g 4=g0 4∧g 5=g0 5)∧∃lv,g 7=lv∧Hid (Bl w6.heap.size w6 w'∧OwnB w' w6.heap.size lv (flagL c2 (λi=>⟨9,i,0⟩) L1 k))) KR ?_ ?_ ?_
  ·(repeat' first|(with_reducible first|exact⟨⟩|(refine gB ?_;intros)|refine gT ?_ ?_)|refine gs ?_|refine sx ?_)
   first|exact⟨_,rfl,hbl1.out,hO.out⟩|exact⟨_,rfl,hO.out⟩
  ·clear hi hlv hlv1 hO hbl1 hbl sa1 hnl
   rintro k m g wk hk hlt nk ⟨hi,hf,lv,hlv,hp⟩
   simp(maxDischargeDepth:=3) only[U,↓reduceIte,Nat.reduceEqDiff, *] at hf
   obtain⟨hbl,hown⟩:=hp.out
   have sa1:=sa_of hbl.2
   have hlv1:=hown.one
   have hwj:IntKind.i64.wrap ((k:Int)+1)=((k+1:Nat):Int):=by have:=h16.out;rw[wrap_i64_id]<;>omega
   have huk:=λw' (h1:Bl B w w') (h3:B≤w'.heap.size)=>ref14OfFeed (r:=(k:Int)) h3 (hS w' h1) (hW w' h1) (hX w' h1) hval.out
   have hck:Hid (c2 k=decide ((s.feeds[k]).limit<feedF s (l.map (·.x)) x k)):=by rw[hc2.out];show feedC s (l.map (·.x)) x k=_;rw[feedC,feedS_at hlt]
   have hownx:Hid (∀w',Ext wk w'→OwnB w' w6.heap.size lv (flagL c2 (λi=>⟨9,i,0⟩) L1 k)):=λw' h=>hown.ext h
   have hfl:Hid ((flagL c2 (λi=>(⟨9,i,0⟩:BrokeD)) L1 k).length<1000000000000):=by
    have:=flag_len (c:=c2) (f:=λi=>(⟨9,i,0⟩:BrokeD)) (L0:=L1) k
    have:=h16.out
    have:=hL1.out
    show _<_
    omega
   have rk:=Ext.refl wk
   generalize feedF s (l.map (·.x)) x (k:Int)=U at *
   clear hp hown
   (repeat' first|((with_reducible refine wpd_at 9 ?_);refine wpd_cmid (m:=14) KR KR KR rfl ?_)|(with_reducible first|exact⟨⟩|(refine gB ?_;intros)|refine gT ?_ ?_)|refine gs ?_|((with_reducible refine at_q 100 ?_);refine qret_k (λ_ _ _=>huk _ FR FR) ?_)|simp(maxDischargeDepth:=3) only[↓X,↓Y,↓Q,S1,↓reduceIte,Nat.reduceEqDiff,Nat.reduceAdd,Int.reduceLT,Int.reduceLE,Int.reduceNeg,Int.reduceBEq,Int.reduceBNe,Int.reduceEq,Nat.reduceLeDiff,Nat.reduceMul,Nat.reduceLT, *,siteC,feedV]|simp(singlePass:=true) (maxDischargeDepth:=99) only[*,S2,Nat.reduceLT,siteC,feedV])
   rename_i wq nq sq
   rw[←hck.out]
   refine add_k (B:=w6.heap.size) (is:=c2 k) FR (hownx.out _ FR) hfl.out λv2 w2 n2 s2 hO=>?_
   have hv2:=hO.one
   have hOx:Hid (∀w',Ext w2 w'→OwnB w' w6.heap.size v2 (flagL c2 (λi=>⟨9,i,0⟩) L1 (k+1))):=λw' h=>hO.ext h
   have hbl2:Bl w6.heap.size w6 w2:=FR
   have r2:=Ext.refl w2
   clear hO
   (repeat' first|(with_reducible first|exact⟨⟩|(refine gB ?_;intros)|refine gT ?_ ?_)|refine gs ?_|refine sx ?_)
   refine next_g hk hlt ?_
   (repeat' first|(with_reducible first|exact⟨⟩|(refine gB ?_;intros)|refine gT ?_ ?_)|refine gs ?_|refine sx ?_)
   refine⟨_,rfl,?_⟩
   first|exact⟨FR,hOx.out _ FR⟩|exact hOx.out _ FR
  ·rintro g wk nk ⟨hi,hf,lv,hlv,hp⟩
   simp(maxDischargeDepth:=3) only[U,↓reduceIte,Nat.reduceEqDiff, *] at hf
   obtain⟨hbl,hown⟩:=hp.out
   have sa1:=sa_of hbl.2
   have hlv1:=hown.one
   have hnl:¬s.feeds.length<s.feeds.length:=Nat.lt_irrefl _
   have hO:Hid _:=hown
   have hbl1:Hid (Bl w6.heap.size w6 wk):=hbl
   have hL20:=flag_len (c:=c2) (f:=λi=>(⟨9,i,0⟩:BrokeD)) (L0:=L1) s.feeds.length
   generalize flagL c2 (λi=>(⟨9,i,0⟩:BrokeD)) L1 s.feeds.length=L2 at *
   have hL1:Hid (L2.length≤12):=by have:=h16.out;have:=hL1.out;show _≤_;(try simp only[List.length_nil] at *);omega
   clear hp hown hL20
   (repeat' first|(with_reducible first|exact⟨⟩|(refine gB ?_;intros)|refine gT ?_ ?_)|refine gs ?_|refine sx ?_)
   obtain⟨c3,hc3⟩:∃c3,c3=loopC s (l.map (·.x)) x:=⟨_,rfl⟩
   rw[←hc3]
   replace hc3:Hid _:=hc3
   refine loop_g s.loops.length (λg0 k g w'=>g 10=.int .i64 k∧(g 3=g0 3∧g 4=g0 4∧g 5=g0 5)∧∃lv,g 7=lv∧Hid (Bl w6.heap.size w6 w'∧OwnB w' w6.heap.size lv (flagL c3 (λi=>⟨10,i,0⟩) L2 k))) KR ?_ ?_ ?_
   ·(repeat' first|(with_reducible first|exact⟨⟩|(refine gB ?_;intros)|refine gT ?_ ?_)|refine gs ?_|refine sx ?_)
    first|exact⟨_,rfl,hbl1.out,hO.out⟩|exact⟨_,rfl,hO.out⟩
   ·clear hi hlv hlv1 hO hbl1 hbl sa1 hnl
    rintro k m g wk hk hlt nk ⟨hi,hf,lv,hlv,hp⟩
    simp(maxDischargeDepth:=3) only[U,↓reduceIte,Nat.reduceEqDiff, *] at hf
    obtain⟨hbl,hown⟩:=hp.out
    have sa1:=sa_of hbl.2
    have hlv1:=hown.one
    have hwj:IntKind.i64.wrap ((k:Int)+1)=((k+1:Nat):Int):=by have:=h16.out;rw[wrap_i64_id]<;>omega
    have huk:=λw' (h1:Bl B w w') (h3:B≤w'.heap.size)=>ref15Heat (r:=(k:Int)) h3 (hS w' h1) (hW w' h1) (hX w' h1) hval.out
    have hck:Hid (c3 k=decide ((s.loops[k]).carry<heatF s (l.map (·.x)) x k)):=by rw[hc3.out];show loopC s (l.map (·.x)) x k=_;rw[loopC,loopS_at hlt]
    have hownx:Hid (∀w',Ext wk w'→OwnB w' w6.heap.size lv (flagL c3 (λi=>⟨10,i,0⟩) L2 k)):=λw' h=>hown.ext h
    have hfl:Hid ((flagL c3 (λi=>(⟨10,i,0⟩:BrokeD)) L2 k).length<1000000000000):=by
     have:=flag_len (c:=c3) (f:=λi=>(⟨10,i,0⟩:BrokeD)) (L0:=L2) k
     have:=h16.out
     have:=hL1.out
     show _<_
     omega
    have rk:=Ext.refl wk
    generalize heatF s (l.map (·.x)) x (k:Int)=U at *
    clear hp hown
    (repeat' first|((with_reducible refine wpd_at 13 ?_);refine wpd_cmid (m:=14) KR KR KR rfl ?_)|(with_reducible first|exact⟨⟩|(refine gB ?_;intros)|refine gT ?_ ?_)|refine gs ?_|((with_reducible refine at_q 101 ?_);refine qret_k (λ_ _ _=>huk _ FR FR) ?_)|simp(maxDischargeDepth:=3) only[↓X,↓Y,↓Q,S1,↓reduceIte,Nat.reduceEqDiff,Nat.reduceAdd,Int.reduceLT,Int.reduceLE,Int.reduceNeg,Int.reduceBEq,Int.reduceBNe,Int.reduceEq,Nat.reduceLeDiff,Nat.reduceMul,Nat.reduceLT, *,siteC,loopV]|simp(singlePass:=true) (maxDischargeDepth:=99) only[*,S2,Nat.reduceLT,siteC,loopV])
    rename_i wq nq sq
    rw[←hck.out]
    refine add_k (B:=w6.heap.size) (is:=c3 k) FR (hownx.out _ FR) hfl.out λv2 w2 n2 s2 hO=>?_
    have hv2:=hO.one
    have hOx:Hid (∀w',Ext w2 w'→OwnB w' w6.heap.size v2 (flagL c3 (λi=>⟨10,i,0⟩) L2 (k+1))):=λw' h=>hO.ext h
    have hbl2:Bl w6.heap.size w6 w2:=FR
    have r2:=Ext.refl w2
    clear hO
    (repeat' first|(with_reducible first|exact⟨⟩|(refine gB ?_;intros)|refine gT ?_ ?_)|refine gs ?_|refine sx ?_)
    refine next_g hk hlt ?_
    (repeat' first|(with_reducible first|exact⟨⟩|(refine gB ?_;intros)|refine gT ?_ ?_)|refine gs ?_|refine sx ?_)
    refine⟨_,rfl,?_⟩
    first|exact⟨FR,hOx.out _ FR⟩|exact hOx.out _ FR
   ·rintro g wk nk ⟨hi,hf,lv,hlv,hp⟩
    simp(maxDischargeDepth:=3) only[U,↓reduceIte,Nat.reduceEqDiff, *] at hf
    obtain⟨hbl,hown⟩:=hp.out
    have sa1:=sa_of hbl.2
    have hlv1:=hown.one
    have hnl:¬s.loops.length<s.loops.length:=Nat.lt_irrefl _
    have hO:Hid _:=hown
    have hxw:Ext w wk:=FR
    clear hp hown
    (repeat' first|(with_reducible first|exact⟨⟩|(refine gB ?_;intros)|refine gT ?_ ?_)|refine gs ?_|refine sx ?_)
    exact hO.out.more hww
end
theorem broke_eq{a b:BrokeD}:((a.kind == b.kind)&&((a.a == b.a)&&(a.b == b.b)))=decide (a=b):=by
 cases a;cases b
 rw[Bool.eq_iff_iff];simp
section
variable{w:World}{B B':Nat}{lv av:Value}{L A:List BrokeD}
theorem ref17has(hB:B≤w.heap.size)(hl:Sl w B (some 3) 3 lv (L.map brokeV)){x:BrokeD}:Ret Tryz.prog 49 #[lv,brokeV x] w (.bool (decide (x∈L))):=by
 have⟨hn,hx⟩:=bg0 w
 have hl':=hl.k hB
 have hbw:Bl B w w:=Bl.refl hB
 have hm:=hl.max_
 (refine callsV_of Tryz.func49 rfl KR KR ?_;rw[Tryz.results49])
 (repeat' first|(with_reducible first|exact⟨⟩|(refine gB ?_;intros)|refine gT ?_ ?_)|refine gs ?_|refine sxKeepF242 ?_)
 refine loop_k (L.length) (λg0 k g _=>g 5=.int .i64 k∧(g 0=g0 0∧g 3=g0 3)∧Hid (x∉L.take k)) KR (hm) ?_ ?_ ?_
 ·(repeat' first|(with_reducible first|exact⟨⟩|(refine gB ?_;intros)|refine gT ?_ ?_)|refine gs ?_|refine sxKeepF243 ?_)
  first|exact(by simp:x∉L.take 0)|exact trivial
 ·rintro k m g wk hk hlt _ _ _ hw ⟨hi,hf,hp⟩
  simp(maxDischargeDepth:=3) only[U,↓reduceIte,Nat.reduceEqDiff, *] at hf
  rename_i hsk hbk
  have rk:=Ext.refl wk
  by_cases hx1:L[k]=x
  ·have hd:decide (x∈L)=true:=decide_eq_true (by rw[←hx1];exact List.getElem_mem hlt)
   have hx2:decide (L[k]=x)=true:=decide_eq_true hx1
   rw[hd]
   clear hd
   (repeat' first|(with_reducible first|exact⟨⟩|(refine gB ?_;intros)|refine gT ?_ ?_)|refine gs ?_|simp(maxDischargeDepth:=3) only[↓X,↓Y,↓Q,S1,↓reduceIte,Nat.reduceEqDiff,Nat.reduceAdd,Int.reduceLT,Int.reduceLE,Int.reduceNeg,Int.reduceBEq,Int.reduceBNe,Int.reduceEq,Nat.reduceLeDiff,Nat.reduceMul,Nat.reduceLT, *,brokeV,brokeC,broke_eq]|simp(singlePass:=true) (maxDischargeDepth:=99) only[*,S2,Nat.reduceLT,brokeV,brokeC,broke_eq])
   all_goals first|contradiction|rfl|trace_state
  ·have hnx:Hid (x∉L.take (k+1)):=by
    show ¬_
    rw[List.take_add_one,List.getElem?_eq_getElem hlt,Option.toList_some,List.mem_append,List.mem_singleton]
    rintro(h|h)
    ·exact hp.out h
    ·exact hx1 h.symm
   (repeat' first|(with_reducible first|exact⟨⟩|(refine gB ?_;intros)|refine gT ?_ ?_)|refine gs ?_|simp(maxDischargeDepth:=3) only[↓X,↓Y,↓Q,S1,↓reduceIte,Nat.reduceEqDiff,Nat.reduceAdd,Int.reduceLT,Int.reduceLE,Int.reduceNeg,Int.reduceBEq,Int.reduceBNe,Int.reduceEq,Nat.reduceLeDiff,Nat.reduceMul,Nat.reduceLT, *,brokeV,brokeC,broke_eq]|simp(singlePass:=true) (maxDischargeDepth:=99) only[*,S2,Nat.reduceLT,brokeV,brokeC,broke_eq])
   all_goals first|contradiction|refine next_k hk hlt ?_ FR|trace_state
   all_goals (repeat' first|(with_reducible first|exact⟨⟩|(refine gB ?_;intros)|refine gT ?_ ?_)|refine gs ?_|refine sx ?_)
   all_goals exact hnx.out
 ·rintro g wk _ _ _ ⟨hi,hf,hp⟩
  simp(maxDischargeDepth:=3) only[U,↓reduceIte,Nat.reduceEqDiff, *] at hf
  (repeat' first|(with_reducible first|exact⟨⟩|(refine gB ?_;intros)|refine gT ?_ ?_)|refine gs ?_|refine sx ?_)
  have h9:=hp.out
  rw[List.take_length] at h9
  simp[h9]
def keptB(L A:List BrokeD):Bool:=A.all λz=>decide (z∈L)
theorem ref17Kept(hB:B≤w.heap.size)(hB':B'≤w.heap.size)(hl:Sl w B (some 3) 3 lv (L.map brokeV))(ha:Sl w B' (some 3) 3 av (A.map brokeV)):CallsV Tryz.prog 23 #[lv,av] w λr w'=>Ext w w'∧∃z:BrokeD,r=.tuple #[brokeV z,.bool (keptB L A)]:=by
 have⟨hn,hx⟩:=bg0 w
 have hl':=hl.k hB
 have ha':=ha.k hB'
 have hbw:Bl B w w:=Bl.refl hB
 have hbw':Bl B' w w:=Bl.refl hB'
 have hm:=ha.max_
 unfold keptB
 (refine callsV_of Tryz.func23 rfl KR KR ?_;rw[Tryz.results23])
 (repeat' first|(with_reducible first|exact⟨⟩|(refine gB ?_;intros)|refine gT ?_ ?_)|refine gs ?_|refine sx ?_)
 rename_i b4 w4 n4 k4 s4 q4
 have r4:=Ext.refl w4
 refine loop_k (A.length) (λg0 k g _=>g 6=.int .i64 k∧(g 0=g0 0∧g 1=g0 1∧g 4=g0 4∧g 64=g0 64)∧Hid ((A.take k).all (λz=>decide (z∈L))=true)) KR (hm) ?_ ?_ ?_
 ·(repeat' first|(with_reducible first|exact⟨⟩|(refine gB ?_;intros)|refine gT ?_ ?_)|refine gs ?_|refine sxKeepF243 ?_)
  first|exact rfl|exact trivial
 ·rintro k m g wk hk hlt _ _ _ hw ⟨hi,hf,hp⟩
  simp(maxDischargeDepth:=3) only[U,↓reduceIte,Nat.reduceEqDiff, *] at hf
  rename_i hsk hbk
  have rk:=Ext.refl wk
  have hhs:=λw' (h1:Bl B w w') (h3:B≤w'.heap.size)=>ref17has (x:=A[k]) h3 (hl.bl h1)
  by_cases hx1:A[k]∈L
  ·rw[decide_eq_true hx1] at hhs
   have hnx:Hid ((A.take (k+1)).all (λz=>decide (z∈L))=true):=by
    show _=_
    rw[List.take_add_one,List.getElem?_eq_getElem hlt,Option.toList_some,List.all_append,hp.out]
    simp[hx1]
   clear hp
   (repeat' first|(with_reducible first|exact⟨⟩|(refine gB ?_;intros)|refine gT ?_ ?_)|refine gs ?_|((with_reducible refine at_q 49 ?_);refine qret_k (λ_ _ _=>hhs _ FR FR) ?_)|((with_reducible refine at_f 49 ?_);refine ret_k (hhs _ FR FR) λ_ _ _=>?_)|refine sx ?_)
   refine next_k hk hlt ?_ FR
   (repeat' first|(with_reducible first|exact⟨⟩|(refine gB ?_;intros)|refine gT ?_ ?_)|refine gs ?_|refine sx ?_)
   all_goals exact hnx.out
  ·have hd:decide (A[k]∈L)=false:=decide_eq_false hx1
   rw[hd] at hhs
   have hall:A.all (λz=>decide (z∈L))=false:=by
    rw[List.all_eq_false]
    exact⟨_,List.getElem_mem hlt,by simp[hx1]⟩
   rw[hall]
   clear hall hp
   (repeat' first|(with_reducible first|exact⟨⟩|(refine gB ?_;intros)|refine gT ?_ ?_)|refine gs ?_|((with_reducible refine at_q 49 ?_);refine qret_k (λ_ _ _=>hhs _ FR FR) ?_)|((with_reducible refine at_f 49 ?_);refine ret_k (hhs _ FR FR) λ_ _ _=>?_)|refine sxKeepF242 ?_)
   all_goals exact⟨A[k],rfl⟩
 ·rintro g wk _ _ _ ⟨hi,hf,hp⟩
  simp(maxDischargeDepth:=3) only[U,↓reduceIte,Nat.reduceEqDiff, *] at hf
  have h9:=hp.out
  rw[List.take_length] at h9
  rw[h9]
  clear hp h9
  (repeat' first|(with_reducible first|exact⟨⟩|(refine gB ?_;intros)|refine gT ?_ ?_)|refine gs ?_|refine sxKeepF242 ?_)
  all_goals exact⟨⟨0,0,0⟩,rfl⟩
end
def nestL(c:Nat→Nat→Bool)(f:Nat→Nat→BrokeD)(m:Nat→Nat)(L0:List BrokeD):Nat→List BrokeD
 |0=>L0
 |n+1=>flagL (c n) (f n) (nestL c f m L0 n) (m n)
theorem nest_len{c:Nat→Nat→Bool}{f:Nat→Nat→BrokeD}{m:Nat→Nat}{L0:List BrokeD}{M:Nat}:∀n,(∀i,i<n→m i≤M)→(nestL c f m L0 n).length≤L0.length+n * M
 |0,_=>by simp[nestL]
 |n+1,h=>by
  have h1:=nest_len (c:=c) (f:=f) (m:=m) (L0:=L0) (M:=M) n λi hi=>h i (by omega)
  have h2:=flag_len (c:=c n) (f:=f n) (L0:=nestL c f m L0 n) (m n)
  have h3:=h n (by omega)
  rw[nestL,Nat.succ_mul]
  omega
theorem mem_nest{c:Nat→Nat→Bool}{f:Nat→Nat→BrokeD}{m:Nat→Nat}{L0:List BrokeD}{z:BrokeD}:∀n,z∈nestL c f m L0 n↔z∈L0∨∃i,i<n∧∃j,j<m i∧c i j=true∧z=f i j
 |0=>⟨.inl,λh=>h.elim id λ⟨i,h,_⟩=>absurd h (Nat.not_lt_zero i)⟩
 |n+1=>by
  rw[nestL,mem_flag,mem_nest n]
  constructor
  ·rintro((h|⟨i,h1,h2⟩)|⟨j,h1,h2⟩)
   ·exact .inl h
   ·exact .inr ⟨i,by omega,h2⟩
   ·exact .inr ⟨n,by omega,j,h1,h2⟩
  ·rintro(h|⟨i,h1,j,h2⟩)
   ·exact .inl (.inl h)
   ·rcases Nat.lt_succ_iff_lt_or_eq.1 h1 with h4|rfl
    ·exact .inl (.inr ⟨i,h4,j,h2⟩)
    ·exact .inr ⟨j,h2⟩
def srvA(wl:List ServiceD)(i:Nat):ServiceD:=(wl[i]?).getD ⟨0,0,0,0,0,[],[],0⟩
def leastC(wl:List ServiceD)(x:WorldD)(i:Nat):Bool:=decide (((whereL x i).length:Int)<(srvA wl i).least)
def spreadC(s:SiteD)(wl:List ServiceD)(x:WorldD)(i j:Nat):Bool:=decide ((srvA wl i).spread<(((whereL x i).filter λh=>domF s (srvA wl i).domain h == j).length:Int))
def apartC(wl:List ServiceD)(x:WorldD)(i j:Nat):Bool:=(whereL x i).any λh=>hasB x.replicas ⟨((srvA wl i).apart.getD j 0),h⟩
def nearC(s:SiteD)(wl:List ServiceD)(x:WorldD)(i j:Nat):Bool:=lonelyB s x i ((srvA wl i).near.getD j ⟨0,0⟩)
def firmC(wl:List ServiceD)(x:WorldD)(i j:Nat):Bool:=decide ((hostAt x ((whereL x i).getD j 0)).firmware<(srvA wl i).firmware)
def servicesB(s:SiteD)(wl:List ServiceD)(x:WorldD):List BrokeD:=
 nestL (firmC wl x) (λi j=>⟨7,i,(whereL x i).getD j 0⟩) (λi=>(whereL x i).length)
  (nestL (nearC s wl x) (λi j=>⟨6,i,((srvA wl i).near.getD j ⟨0,0⟩).service⟩) (λi=>(srvA wl i).near.length)
   (nestL (apartC wl x) (λi j=>⟨5,i,(srvA wl i).apart.getD j 0⟩) (λi=>(srvA wl i).apart.length)
    (nestL (spreadC s wl x) (λi j=>⟨4,i,j⟩) (λi=>(countF s (srvA wl i).domain).toNat)
     (flagL (leastC wl x) (λi=>⟨3,i,0⟩) [] wl.length) wl.length) wl.length) wl.length) wl.length
def brokenB(s:SiteD)(wl:List ServiceD)(x:WorldD):List BrokeD:=if validB s wl x=true then hostsB s wl x++servicesB s wl x++loadsB s wl x else[]
structure Lower (x y:WorldD):Prop where
 r:x.replicas=y.replicas
 b:∀i:Int,(hostAt x i).phase=4↔(hostAt y i).phase=4
 p:∀i:Int,2≤(hostAt x i).phase→2≤(hostAt y i).phase
section
variable{s:SiteD}{wl:List ServiceD}{x y:WorldD}
theorem used_eq(h:x.replicas=y.replicas):usedI wl x=usedI wl y:=by funext a;simp only[usedI,h]
theorem where_eq(h:x.replicas=y.replicas):whereL x=whereL y:=by funext a;simp only[whereL,h]
theorem watts_eq(h:Lower x y):wattsF s wl x=wattsF s wl y:=by
 funext i
 unfold wattsF
 rw[used_eq h.r]
 by_cases hb:(hostAt x i).phase=4
 ·rw[if_pos hb,if_pos ((h.b i).1 hb)]
 ·rw[if_neg hb,if_neg (λk=>hb ((h.b i).2 k))]
theorem rack_eq(h:Lower x y):rackF s wl x=rackF s wl y:=by funext r;unfold rackF;rw[watts_eq h]
theorem break_eq(h:Lower x y):breakF s wl x=breakF s wl y:=by funext r;unfold breakF;rw[rack_eq h]
theorem feed_eq(h:Lower x y):feedF s wl x=feedF s wl y:=by funext r;unfold feedF;rw[break_eq h]
theorem heat_eq(h:Lower x y):heatF s wl x=heatF s wl y:=by funext r;unfold heatF;rw[watts_eq h]
theorem loads_eq(h:Lower x y):loadsB s wl x=loadsB s wl y:=by
 have e1:breakC s wl x=breakC s wl y:=by funext i;unfold breakC;rw[break_eq h]
 have e2:feedC s wl x=feedC s wl y:=by funext i;unfold feedC;rw[feed_eq h]
 have e3:loopC s wl x=loopC s wl y:=by funext i;unfold loopC;rw[heat_eq h]
 unfold loadsB
 rw[e1,e2,e3]
theorem hosts_sub(h:Lower x y):∀z∈hostsB s wl x,z∈hostsB s wl y:=λz hz=>by
 have e1:coresC s wl x=coresC s wl y:=by funext i;unfold coresC;rw[used_eq h.r]
 unfold hostsB at hz ⊢
 rw[mem_flag] at hz ⊢
 rw[e1] at hz
 rcases hz with hz|⟨i,h1,h2,h3⟩
 ·exact .inl hz
 ·refine .inr ⟨i,h1,?_,h3⟩
  unfold phaseC at h2 ⊢
  rw[←used_eq h.r]
  simp only[Bool.and_eq_true,decide_eq_true_eq] at h2 ⊢
  exact⟨h2.1,h.p i h2.2⟩
theorem firm_no(hv:validB s wl x=true)(hf:∀i,i<wl.length→(srvA wl i).firmware=0){i j:Nat}(hi:i<wl.length):firmC wl x i j=false:=by
 unfold firmC
 rw[hf i hi,decide_eq_false_iff_not,Int.not_lt]
 have hb:=(valid_parts hv).2.2.2.2.2.1
 unfold hostAt
 cases hg:x.hosts[((whereL x i).getD j 0).toNat]? with
 |none=>exact Int.le_refl _
 |some q=>
  have:=List.all_eq_true.1 hb q (List.mem_of_getElem? hg)
  simp only[stateB,btw,Bool.and_eq_true,decide_eq_true_eq] at this
  exact this.2.1
theorem services_sub(h:Lower x y)(hv:validB s wl x=true)(hf:∀i,i<wl.length→(srvA wl i).firmware=0):∀z∈servicesB s wl x,z∈servicesB s wl y:=λz hz=>by
 have ew:=where_eq h.r
 have e1:leastC wl x=leastC wl y:=by funext i;unfold leastC;rw[ew]
 have e2:spreadC s wl x=spreadC s wl y:=by funext i j;unfold spreadC;rw[ew]
 have e3:apartC wl x=apartC wl y:=by funext i j;unfold apartC;rw[ew,h.r]
 have e4:nearC s wl x=nearC s wl y:=by funext i j;unfold nearC lonelyB;rw[ew]
 unfold servicesB at hz ⊢
 rw[mem_nest] at hz ⊢
 rw[e1,e2,e3,e4] at hz
 rcases hz with hz|⟨i,h1,j,h2,h3,h4⟩
 ·exact .inl hz
 ·rw[firm_no hv hf h1] at h3
  cases h3
theorem broken_sub(h:Lower x y)(hx:validB s wl x=true)(hy:validB s wl y=true)(hf:∀i,i<wl.length→(srvA wl i).firmware=0):∀z∈brokenB s wl x,z∈brokenB s wl y:=λz hz=>by
 unfold brokenB at hz ⊢
 rw[if_pos hx] at hz
 rw[if_pos hy]
 rw[loads_eq h] at hz
 rcases List.mem_append.1 hz with hz|hz
 ·rcases List.mem_append.1 hz with hz|hz
  ·exact List.mem_append.2 (.inl (List.mem_append.2 (.inl (hosts_sub h z hz))))
  ·exact List.mem_append.2 (.inl (List.mem_append.2 (.inr (services_sub h hx hf z hz))))
 ·exact List.mem_append.2 (.inr hz)
end
end Go.Proofs.YtphciegaokdolaaGreatDoor
