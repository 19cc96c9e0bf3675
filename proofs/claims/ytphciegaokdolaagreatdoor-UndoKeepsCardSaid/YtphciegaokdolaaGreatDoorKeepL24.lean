/- The document's answer, layer 21: after, from any world. -/
import Derived.Test.YtphciegaokdolaaGreatDoorRef21
import Derived.Test.YtphciegaokdolaaGreatDoorKeepF24
import Derived.Test.YtphciegaokdolaaGreatDoorPureY24
import Derived.Test.YtphciegaokdolaaGreatDoorSort20
namespace Go.Proofs.YtphciegaokdolaaGreatDoor
set_option linter.unusedSimpArgs false
set_option linter.unusedVariables false
open Go Go.RowKit
set_option maxRecDepth 100000
set_option linter.unusedSectionVars false
set_option maxHeartbeats 2000000
def HasW(v:Value)(w:World)(x:WorldD):Prop:=∃h r,v=.agg #[h,r]∧WorldR w w.heap.size h r x
section
variable{w:World}{B Bo:Nat}{u:SiteVs}{sd:SiteD}{wv sv av hv rv ov:Value}{vs:List Value}{l:List SrvV}{p:PlanD}{y:WorldD}{L:List Nat}
theorem ref21fromH(hB:B≤w.heap.size)(hs:SiteR w B u sd)(hl:WishR w B wv l)(hpl:PlanR w B sv av vs p)(hx0:WorldR w B hv rv y)(hBo:Bo≤w.heap.size)(ho:Sl w Bo none 1 ov (L.map natV))(hL:∀i∈L,i<p.steps.length)(hLn:L.length≤4096) :
 CallsV Tryz.prog 46 #[.agg (siteC u sd).toArray,.agg #[wv],.agg #[hv,rv],.agg #[sv,av],ov] w λr w'=>Ext w w'∧∃v0,r=.tuple #[v0,intV (runL sd (l.map (·.x)) p.steps L y).2]∧HasW v0 w' (if (runL sd (l.map (·.x)) p.steps L y).2=-1 then lastW (runL sd (l.map (·.x)) p.steps L y).1 y else noW):=by
 refine CallsV.mono (ref21from (Qa:=True) hB hs hl hpl (.inl ⟨trivial,hx0⟩) hBo ho hL hLn) λr w' hh=>⟨hh.1,?_⟩
 obtain⟨hx,v0,rfl,h,r,rfl,ha⟩:=hh
 exact⟨_,rfl,h,r,rfl,ha.slW (Nat.le_trans hB hx.size)⟩
end
section
variable{w:World}{B:Nat}{sv av:Value}{vs:List Value}{p:PlanD}
theorem ref21last{set place:Nat}(hB:B≤w.heap.size)(hpl:PlanR w B sv av vs p)(ho:Shape p)(hset:set<4096)(hplace:place<62):RetB Tryz.prog 88 #[.agg #[sv,av],natV set,natV place] w:=by
 have hp':=hpl.sk hB
 have hP:=hp'.2.2.2.2.2.2
 have hav1:=hp'.2.2.2.2.1
 have hsv1:=hpl.s.one
 have⟨hn,hx⟩:=bg0 w
 have hbw:Bl B w w:=Bl.refl hB
 have hln:Hid (p.after.length=p.steps.length):=ho.len
 have hsm:Hid (p.steps.length≤12):=ho.small
 have hmax:=hpl.s.max_
 have hg:=λw' (h:Bl B w w') (k:Nat) (hk:k<p.after.length)=>(hpl.a.bl h).get hk
 replace hg:Hid _:=hg
 unfold RetB
 (refine callsV_of Tryz.func88 rfl KR KR ?_;rw[Tryz.results88])
 (repeat' first|(with_reducible first|exact⟨⟩|(refine gB ?_;intros)|refine gT ?_ ?_)|refine gs ?_|refine sx ?_)
 refine ret_k (ref20In (set:=set) (i:=place) hset hplace) λw2 n2 s2=>?_
 cases hb:set.testBit place
 ·(repeat' first|(with_reducible first|exact⟨⟩|(refine gB ?_;intros)|refine gT ?_ ?_)|refine gs ?_|refine sx ?_)
  exact⟨_,rfl⟩
 ·(repeat' first|(with_reducible first|exact⟨⟩|(refine gB ?_;intros)|refine gT ?_ ?_)|refine gs ?_|refine sx ?_)
  refine loop_k p.steps.length (λg0 k g _=>g 7=.int .i64 k∧(g 1=g0 1∧g 2=g0 2∧g 3=g0 3)) KR (by omega) ?_ ?_ ?_
  ·(repeat' first|(with_reducible first|exact⟨⟩|(refine gB ?_;intros)|refine gT ?_ ?_)|refine gs ?_|refine sx ?_)
  ·rintro k m g wk hk hlt _ _ _ hw ⟨hi,hf,hp⟩
   simp(maxDischargeDepth:=3) only[U,↓reduceIte,Nat.reduceEqDiff, *] at hf
   have hka:k<p.after.length:=by have:=hln.out;omega
   obtain⟨z,hz,hsz⟩:=hg.out wk FR k hka
   have hz':=hsz.k FR
   have hzm:=hsz.max_
   (repeat' first|(with_reducible first|exact⟨⟩|(refine gB ?_;intros)|refine gT ?_ ?_)|refine gs ?_|refine sx ?_)
   refine loop_k p.after[k].length (λg0 j g _=>g 8=.int .i64 j∧(g 1=g0 1∧g 2=g0 2∧g 3=g0 3∧g 7=g0 7)) KR (by omega) ?_ ?_ ?_
   ·(repeat' first|(with_reducible first|exact⟨⟩|(refine gB ?_;intros)|refine gT ?_ ?_)|refine gs ?_|refine sx ?_)
   ·rintro j mj g wj hj hjt nj sj bj hwj ⟨hij,hfj⟩
    simp(maxDischargeDepth:=3) only[U,↓reduceIte,Nat.reduceEqDiff, *] at hfj
    obtain⟨z2,hz2,hsz2⟩:=hg.out wj FR k hka
    have hz2':=hsz2.k FR
    (repeat' first|(with_reducible first|exact⟨⟩|(refine gB ?_;intros)|refine gT ?_ ?_)|refine gs ?_|refine sx ?_)
    refine ret_k (ref20In (set:=set) (i:=k) hset (by have:=hsm.out;omega)) λw3 n3 s3=>?_
    obtain⟨z3,hz3,hsz3⟩:=hg.out w3 FR k hka
    have hz3':=hsz3.k FR
    cases hbk:set.testBit k
    ·(repeat' first|(with_reducible first|exact⟨⟩|(refine gB ?_;intros)|refine gT ?_ ?_)|refine gs ?_|refine sx ?_)
     refine next_k hk hlt ?_ FR
     (repeat' first|(with_reducible first|exact⟨⟩|(refine gB ?_;intros)|refine gT ?_ ?_)|refine gs ?_|refine sx ?_)
    ·(repeat' first|(with_reducible first|exact⟨⟩|(refine gB ?_;intros)|refine gT ?_ ?_)|refine gs ?_|refine sx ?_)
     ·exact⟨_,rfl⟩
     ·refine next_k hj hjt ?_ FR
      (repeat' first|(with_reducible first|exact⟨⟩|(refine gB ?_;intros)|refine gT ?_ ?_)|refine gs ?_|refine sx ?_)
   ·rintro g wj nj sj bj ⟨hij,hfj⟩
    simp(maxDischargeDepth:=3) only[U,↓reduceIte,Nat.reduceEqDiff, *] at hfj
    obtain⟨z2,hz2,hsz2⟩:=hg.out wj FR k hka
    have hz2':=hsz2.k FR
    (repeat' first|(with_reducible first|exact⟨⟩|(refine gB ?_;intros)|refine gT ?_ ?_)|refine gs ?_|refine sx ?_)
    refine next_k hk hlt ?_ FR
    (repeat' first|(with_reducible first|exact⟨⟩|(refine gB ?_;intros)|refine gT ?_ ?_)|refine gs ?_|refine sx ?_)
  ·rintro g wk _ _ _ ⟨hi,hf,hp⟩
   simp(maxDischargeDepth:=3) only[U,↓reduceIte,Nat.reduceEqDiff, *] at hf
   (repeat' first|(with_reducible first|exact⟨⟩|(refine gB ?_;intros)|refine gT ?_ ?_)|refine gs ?_|refine sx ?_)
   exact⟨_,rfl⟩
theorem ref21without{set place:Nat}(hplace:place<61):CallsV Tryz.prog 89 #[natV set,natV place] w λr w'=>Ext w w'∧∃z:Int,r=intV z:=by
 have⟨hn,hx⟩:=bg0 w
 (refine callsV_of Tryz.func89 rfl KR KR ?_;rw[Tryz.results89])
 (repeat' first|(with_reducible first|exact⟨⟩|(refine gB ?_;intros)|refine gT ?_ ?_)|refine gs ?_|refine sx ?_)
 refine ret_k (ref20With (set:=0) (i:=place) (by decide) hplace) λw2 n2 s2=>?_
 (repeat' first|(with_reducible first|exact⟨⟩|(refine gB ?_;intros)|refine gT ?_ ?_)|refine gs ?_|refine sx ?_)
 exact⟨_,rfl⟩
end
set_option maxHeartbeats 1000000
section
variable{s:SiteD}{wl:List ServiceD}{x y z:WorldD}{u:StepD}
theorem Lower.refl(x:WorldD):Lower x x:=⟨rfl,λ_=>Iff.rfl,λ_ h=>h⟩
theorem Lower.trans(h:Lower x y)(k:Lower y z):Lower x z:=⟨h.r.trans k.r,λi=>(h.b i).trans (k.b i),λi e=>k.p i (h.p i e)⟩
theorem Sim.low(h:Sim x y):Lower x y:=⟨h.r,λi=>by rw[h.p],λi e=>by rw[←h.p];exact e⟩
theorem reps_apply(h:readyB s wl x u=true)(hk:3≤u.kind∧u.kind≤6):(applyW s wl x u).replicas=x.replicas:=by
 rw[apply_eq h]
 show repsA x.replicas u=_
 unfold repsA
 rw[if_neg (by omega),if_neg (by omega)]
theorem low_up(h:readyB s wl x u=true)(hk:3≤u.kind∧u.kind≤5):Lower x (applyW s wl x u):=by
 have hr:=(rdy_ok h).rdy
 refine⟨(reps_apply h (by omega)).symm,λi=>?_,λi hi=>?_⟩
 ·rw[hostAt_apply h]
  split
  ·rename_i hc
   have e0:hostAt x i=hostAt x u.host:=by simp only[hostAt,hc.2]
   rw[e0]
   rcases(by omega:u.kind=3∨u.kind=4∨u.kind=5) with e|e|e<;>simp[readyK,newState,e] at hr ⊢<;>omega
  ·exact Iff.rfl
 ·rw[hostAt_apply h]
  split
  ·rename_i hc
   have e0:hostAt x i=hostAt x u.host:=by simp only[hostAt,hc.2]
   rw[e0] at hi
   rcases(by omega:u.kind=3∨u.kind=4∨u.kind=5) with e|e|e<;>simp[readyK,newState,e] at hr ⊢<;>omega
  ·exact hi
theorem low_down(h:readyB s wl x u=true)(hk:u.kind=6):Lower (applyW s wl x u) x:=by
 have hr:=(rdy_ok h).rdy
 refine⟨reps_apply h (by omega),λi=>?_,λi hi=>?_⟩
 ·rw[hostAt_apply h]
  split
  ·rename_i hc
   have e0:hostAt x i=hostAt x u.host:=by simp only[hostAt,hc.2]
   rw[e0]
   simp[readyK,newState,hk] at *
   omega
  ·exact Iff.rfl
 ·rw[hostAt_apply h] at hi
  split at hi
  ·simp[newState,hk] at hi
  ·exact hi
theorem way_cons{t:List StepD}(h:readyB s wl x u=true):(wayL s wl x (u::t)).1=applyW s wl x u::(wayL s wl (applyW s wl x u) t).1:=by rw[wayL,if_pos (apply_iff.2 h)]
theorem run_cons{t:List StepD}(h:runU s wl x (u::t)=some z):readyB s wl x u=true∧runU s wl (applyW s wl x u) t=some z:=by
 rw[runU] at h
 split at h
 ·exact⟨by assumption,h⟩
 ·cases h
theorem way_up:∀(t:List StepD) (a:WorldD),(∀u∈t,3≤u.kind∧u.kind≤5)→runU s wl a t=some x→Lower a x∧∀v∈(wayL s wl a t).1,Lower v x
 |[],a,_,h=>by
  rw[runU] at h
  obtain rfl:=Option.some.inj h
  exact⟨Lower.refl _,λv hv=>by simp[wayL] at hv⟩
 |u::t,a,hk,h=>by
  obtain⟨h1,h2⟩:=run_cons h
  obtain⟨h3,h4⟩:=way_up t _ (λv hv=>hk v (List.mem_cons_of_mem _ hv)) h2
  refine⟨(low_up h1 (hk u (List.mem_cons_self ..))).trans h3,λv hv=>?_⟩
  rw[way_cons h1] at hv
  rcases List.mem_cons.1 hv with rfl|hv
  ·exact h3
  ·exact h4 v hv
theorem way_one{a:WorldD}{t:List StepD}(hk:∀u∈t,3≤u.kind∧u.kind≤5)(h:runU s wl a (u::t)=some x):∀v∈(wayL s wl a (u::t)).1,Lower v x:=λv hv=>by
 obtain⟨h1,h2⟩:=run_cons h
 obtain⟨h3,h4⟩:=way_up t _ hk h2
 rw[way_cons h1] at hv
 rcases List.mem_cons.1 hv with rfl|hv
 ·exact h3
 ·exact h4 v hv
end
section
variable{s:SiteD}{wl:List ServiceD}{x y z:WorldD}{u st:StepD}
theorem undoK_forms:undoK x st=[]∨(∃k t,undoK x st=k::t∧∀q∈t,(3:Int)≤q∧q≤5)∨undoK x st=[6,1,3]:=by
 unfold undoK
 repeat' split
 all_goals first
  |exact .inl rfl
  |exact .inr (.inr rfl)
  |exact .inr (.inl ⟨_,_,rfl,by simp⟩)
theorem low_back(h:readyB s wl x st=true)(hu:undoK x st≠[]):∀v∈(wayL s wl (applyW s wl x st) (undoS x st)).1,Lower v x∨Lower v (applyW s wl x st):=by
 have hr:=undo_back h hu
 generalize applyW s wl x st=x' at *
 rcases undoK_forms (x:=x) (st:=st) with e|⟨k,t,e,ht⟩|e
 ·exact absurd e hu
 ·unfold undoS at hr ⊢
  rw[e] at hr ⊢
  intro v hv
  refine .inl (way_one (λu hu=>?_) hr v hv)
  obtain⟨q,hq,rfl⟩:=List.mem_map.1 hu
  exact ht q hq
 ·unfold undoS at hr ⊢
  rw[e] at hr ⊢
  simp only[List.map_cons,List.map_nil] at hr ⊢
  obtain⟨h1,h2⟩:=run_cons hr
  intro v hv
  rw[way_cons h1] at hv
  rcases List.mem_cons.1 hv with rfl|hv
  ·exact .inr (low_down h1 rfl)
  ·refine .inl (way_one (λu hu=>?_) h2 v hv)
   obtain rfl:=List.mem_singleton.1 hu
   show(3:Int)≤3∧(3:Int)≤5
   decide
theorem way_valid:∀(us:List StepD) (a:WorldD),∀v∈(wayL s wl a us).1,validB s wl v=true
 |[],a,v,h=>by simp[wayL] at h
 |u::t,a,v,h=>by
  rw[wayL] at h
  split at h
  ·rename_i e
   rcases List.mem_cons.1 h with rfl|h
   ·exact apply_valid (apply_iff.1 e)
   ·exact way_valid t _ v h
  ·cases h
theorem way_sim:∀(us:List StepD) (x y z:WorldD),Sim x y→validB s wl y=true→runU s wl x us=some z→∀v∈(wayL s wl y us).1,∃v'∈(wayL s wl x us).1,Sim v v'
 |[],x,y,z,_,_,_,v,h=>by simp[wayL] at h
 |u::t,x,y,z,h,hv,hr,v,hm=>by
  obtain⟨h1,h2⟩:=run_cons hr
  have hy:=sim_ready h hv h1
  rw[way_cons hy] at hm
  rw[way_cons h1]
  rcases List.mem_cons.1 hm with rfl|hm
  ·exact⟨_,List.mem_cons_self ..,(sim_apply h h1 hy).symm⟩
  ·obtain⟨v',h3,h4⟩:=way_sim t _ _ z (sim_apply h h1 hy) (apply_valid hy) h2 v hm
   exact⟨v',List.mem_cons_of_mem _ h3,h4⟩
theorem way_append:∀(a b:List StepD) (v z:WorldD),runU s wl v a=some z→(wayL s wl v (a++b)).1=(wayL s wl v a).1++(wayL s wl z b).1
 |[],b,v,z,h=>by rw[runU] at h;obtain rfl:=Option.some.inj h;rfl
 |u::t,b,v,z,h=>by
  obtain⟨h1,h2⟩:=run_cons h
  rw[List.cons_append,way_cons h1,way_cons h1,way_append t b _ z h2,List.cons_append]
end
section
variable{s:SiteD}{wl:List ServiceD}{steps:List StepD}{L:List Nat}{y:WorldD}{ws:List WorldD}
theorem Run.low(h:Run s wl steps L y ws)(hf:∀i (hi:i<L.length),lastB s wl ((y::ws).getD i noW) (stA steps L[i])=true→(stA steps L[i]).kind=7):∀k,k≤L.length→∀v∈(wayL s wl ((y::ws).getD L.length noW) (backS s wl steps (y::ws) ((xsL L).take k))).1,∃j,j≤L.length∧Lower v ((y::ws).getD j noW)
 |0,_,v,hv=>by simp[backS,wayL] at hv
 |k+1,hk,v,hv=>by
  obtain⟨z,e,hs,hvz,hfw⟩:=h.back hf k (by omega)
  have hi:L.length - 1 - k<L.length:=by omega
  have e1:L.length - k=(L.length - 1 - k)+1:=by omega
  obtain⟨h1,h2⟩:=h.at_ _ hi
  have hgd:L.getD (L.length - 1 - k) 0=L[L.length - 1 - k]:=by rw[List.getD_eq_getElem?_getD,List.getElem?_eq_getElem hi];rfl
  rw[e1] at hs
  rw[xsL_take (by omega),backS_snoc,way_append _ _ _ _ e,backAt,hgd] at hv
  rcases List.mem_append.1 hv with hv|hv
  ·exact h.low hf k (by omega) v hv
  have hl:=hf _ hi
  have hu:undoL s wl ((y::ws).getD (L.length - 1 - k) noW) (stA steps L[L.length - 1 - k])=undoS ((y::ws).getD (L.length - 1 - k) noW) (stA steps L[L.length - 1 - k]):=by rw[undoL,if_pos (apply_iff.2 h1)]
  simp only[hu] at hv
  by_cases hn:undoK ((y::ws).getD (L.length - 1 - k) noW) (stA steps L[L.length - 1 - k])=[]
  ·have:undoS ((y::ws).getD (L.length - 1 - k) noW) (stA steps L[L.length - 1 - k])=[]:=by unfold undoS;rw[hn];rfl
   rw[this] at hv
   simp[wayL] at hv
  ·have hb:=undo_back h1 hn
   rw[←h2] at hb
   obtain⟨v',k1,k2⟩:=way_sim _ _ z _ hs hvz hb v hv
   rw[h2] at k1
   rcases low_back h1 hn v' k1 with k3|k3
   ·exact⟨_,by omega,k2.low.trans k3⟩
   ·rw[←h2] at k3
    exact⟨_,by omega,k2.low.trans k3⟩
end
def addN(d:Nat)(l:List Nat):Nat:=l.foldl (λd i=>d|||2^i) d
theorem addN_bit:∀(l:List Nat) (d j:Nat),(addN d l).testBit j=true↔d.testBit j=true∨j∈l
 |[],d,j=>by simp[addN]
 |i::r,d,j=>by
  rw[addN,List.foldl_cons,←addN,addN_bit r,Nat.testBit_or,Nat.testBit_two_pow,Bool.or_eq_true,List.mem_cons,decide_eq_true_eq,or_assoc,eq_comm (a:=i)]
theorem seqF_bit24{p:PlanD}{set:Nat}:∀(f d:Nat),∀j∈seqF p set f d,set.testBit j=true
 |0,_,j,h=>by cases h
 |f+1,d,j,h=>by
  rw[seqF] at h
  split at h
  ·cases h
  ·split at h
   ·cases h
   ·rename_i i hi
    rcases List.mem_cons.1 h with rfl|h
    ·exact List.find?_some hi
    ·exact seqF_bit24 f _ j h
theorem seq_pre{p:PlanD}{set:Nat}:∀(n f d:Nat),n≤(seqF p set f d).length→seqF p (addN d ((seqF p set f d).take n)) f d=(seqF p set f d).take n
 |0,f,d,_=>by
  rw[List.take_zero]
  show seqF p d f d=[]
  cases f with
  |zero=>rfl
  |succ f=>rw[seqF,if_pos rfl]
 |n+1,0,d,h=>by simp[seqF] at h
 |n+1,f+1,d,h=>by
  have hs:=seqF_bit24 (p:=p) (set:=set) (f+1) d
  by_cases he:d=set
  ·rw[seqF,if_pos he] at h;simp at h
  cases hq:(enabledL p d).find? λi=>set.testBit i with
  |none=>rw[seqF,if_neg he,hq] at h;simp at h
  |some i=>
   have hsq:seqF p set (f+1) d=i::seqF p set f (d|||2^i):=by rw[seqF,if_neg he,hq]
   rw[hsq] at h hs ⊢
   have ih:=seq_pre n f (d|||2^i) (by simpa using h)
   rw[List.take_succ_cons]
   have hD:addN d (i::(seqF p set f (d|||2^i)).take n)=addN (d|||2^i) ((seqF p set f (d|||2^i)).take n):=rfl
   rw[hD]
   have hbit:∀j,(addN (d|||2^i) ((seqF p set f (d|||2^i)).take n)).testBit j=true↔d.testBit j=true∨j=i∨j∈(seqF p set f (d|||2^i)).take n:=λj=>by
    rw[←hD,addN_bit,List.mem_cons]
   generalize addN (d|||2^i) ((seqF p set f (d|||2^i)).take n)=D at *
   obtain⟨h1,xa,xb,h2,h3⟩:=List.find?_eq_some_iff_append.1 hq
   have hen:∀j∈enabledL p d,d.testBit j=false:=λj hj=>by
    have:=(List.mem_filter.1 hj).2
    simp only[Bool.and_eq_true,Bool.not_eq_true'] at this
    exact this.1
   have hi0:d.testBit i=false:=hen i (by rw[h2];simp)
   have hne:¬d=D:=λe=>by
    have:=(hbit i).2 (.inr (.inl rfl))
    rw[←e,hi0] at this
    cases this
   rw[seqF,if_neg hne]
   have hq2:(enabledL p d).find? (λi=>D.testBit i)=some i:=by
    refine List.find?_eq_some_iff_append.2 ⟨(hbit i).2 (.inr (.inl rfl)),xa,xb,h2,λa ha=>?_⟩
    have h4:=h3 a ha
    simp only[Bool.not_eq_true',Bool.not_eq_eq_eq_not,Bool.not_true] at h4 ⊢
    cases hb:D.testBit a
    ·rfl
    ·rcases(hbit a).1 hb with h5|rfl|h5
     ·rw[hen a (by rw[h2];simp[ha])] at h5;cases h5
     ·rw[h4] at h1;cases h1
     ·have:=hs a (List.mem_cons_of_mem _ (List.mem_of_mem_take h5))
      rw[h4] at this;cases this
   rw[hq2]
   simp only
   rw[ih]
theorem ideal_pre{p:PlanD}:∀(l:List Nat) (d n:Nat),idealB p d=true→Chk p d l→idealB p (addN d (l.take n))=true
 |[],d,n,h,_=>by rw[List.take_nil];exact h
 |i::r,d,0,h,_=>h
 |i::r,d,n+1,h,⟨_,h1,h2,h3,h4⟩=>by
  rw[List.take_succ_cons]
  exact ideal_pre r _ n (u24_with h h1 h3) h4
theorem runL_take{s:SiteD}{wl:List ServiceD}{steps:List StepD}:∀(L:List Nat) (y:WorldD) (n:Nat),(runL s wl steps L y).2=-1→(runL s wl steps (L.take n) y)=((runL s wl steps L y).1.take n,-1)
 |[],y,n,_=>by simp[runL]
 |i::r,y,0,_=>by simp[runL]
 |i::r,y,n+1,h=>by
  rw[List.take_succ_cons]
  rw[runL] at h ⊢
  split at h
  ·rename_i e
   have ih:=runL_take r (applyW s wl y (stA steps i)) n h
   rw[if_pos e,ih]
   rw[runL,if_pos e,List.take_succ_cons]
  ·simp only at h;omega
theorem lastW_take(ws:List WorldD)(y:WorldD)(k:Nat)(hk:k≤ws.length):lastW (ws.take k) y=(y::ws).getD k noW:=by
 rcases Nat.eq_zero_or_pos k with rfl|h0
 ·rfl
 ·obtain⟨n,rfl⟩:∃n,k=n+1:=⟨k - 1,by omega⟩
  have hl:(ws.take (n+1)).length=n+1:=by rw[List.length_take];omega
  rw[lastW_get (by omega),List.getD_eq_getElem?_getD,List.getElem?_cons_succ,List.getElem?_eq_getElem (by omega)]
  simp only[hl,List.getElem_take]
  rfl
def heldB(s:SiteD)(wl:List ServiceD)(p:PlanD)(y:WorldD)(x:Nat):Prop:=keptB (brokenB s wl y) (brokenB s wl (lastW (runL s wl p.steps (seqF p x 4096 0) y).1 y))=true
theorem kept_trans{L A C:List BrokeD}(h:keptB L A=true)(hs:∀z∈C,z∈A):keptB L C=true:=by
 unfold keptB at h ⊢
 rw[List.all_eq_true] at h ⊢
 exact λz hz=>h z (hs z hz)
theorem idealB_zero24(p:PlanD):idealB p 0=true:=by
 simp only[idealB,Bool.and_eq_true,decide_eq_true_eq]
 exact⟨Nat.two_pow_pos _,λi _ h=>by rw[Nat.zero_testBit] at h;cases h⟩
theorem keeps24{s:SiteD}{wl:List ServiceD}{p:PlanD}{L:List Nat}{y:WorldD}{ws:List WorldD}{x:Nat}(hL:L=seqF p x 4096 0)(hc:Chk p 0 L)(hr:(runL s wl p.steps L y).2=-1)(hw:ws=(runL s wl p.steps L y).1)(hv:validB s wl y=true)
 (hf:∀i (hi:i<L.length),lastB s wl ((y::ws).getD i noW) (stA p.steps L[i])=true→(stA p.steps L[i]).kind=7) (hfw:∀i,i<wl.length→(srvA wl i).firmware=0)
 (hck:∀d∈idealsL p,heldB s wl p y d):∀v∈(wayL s wl (lastW ws y) (backS s wl p.steps (y::ws) (xsL L))).1,keptB (brokenB s wl y) (brokenB s wl v)=true:=λv hvm=>by
 have hrun:Run s wl p.steps L y ws:=hw▸run_of hr hv
 have hlow:=hrun.low hf L.length (Nat.le_refl _)
 rw[List.take_of_length_le (by rw[xsL_len];exact Nat.le_refl _),←hrun.last] at hlow
 obtain⟨j,hj,hl⟩:=hlow v hvm
 have hvv:=way_valid _ _ v hvm
 have hid:=ideal_pre L 0 j (idealB_zero24 p) hc
 have hmem:addN 0 (L.take j)∈idealsL p:=by
  refine List.mem_filter.2 ⟨List.mem_range.2 ?_,hid⟩
  simp only[idealB,Bool.and_eq_true,decide_eq_true_eq] at hid
  exact hid.1
 have h1:=hck _ hmem
 unfold heldB at h1
 have hsq:seqF p (addN 0 (L.take j)) 4096 0=L.take j:=by
  rw[hL]
  exact seq_pre j 4096 0 (by rw[←hL];exact hj)
 rw[hsq,runL_take L y j hr,←hw] at h1
 simp only at h1
 rw[lastW_take _ _ _ (by rw[hrun.l];exact hj)] at h1
 exact kept_trans h1 (broken_sub hl hvv (hrun.valid j hj) hfw)
end Go.Proofs.YtphciegaokdolaaGreatDoor
