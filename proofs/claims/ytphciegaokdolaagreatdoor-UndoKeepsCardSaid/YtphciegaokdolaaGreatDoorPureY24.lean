/- The worlds along a way back: no program is walked here. -/
import Derived.Test.YtphciegaokdolaaGreatDoorOwn1
import Derived.Test.YtphciegaokdolaaGreatDoorSort20
namespace Go.Proofs.YtphciegaokdolaaGreatDoor
set_option linter.unusedSimpArgs false
set_option linter.unusedVariables false
open Go Go.RowKit
set_option maxRecDepth 100000
set_option linter.unusedSectionVars false
set_option maxHeartbeats 1000000
def wayL(s:SiteD)(wl:List ServiceD):WorldD→List StepD→List WorldD×Bool
 |_,[]=>([],true)
 |x,u::t=>if applyE s wl x u=0 then(applyW s wl x u::(wayL s wl (applyW s wl x u) t).1,(wayL s wl (applyW s wl x u) t).2) else([],false)
structure WayAt (s:SiteD) (wl:List ServiceD) (us:List StepD) (y:WorldD) (k:Nat) (ws:List WorldD) (x:WorldD):Prop where
 l:ws.length=k
 xe:x=lastW ws y
 r:wayL s wl y us=(ws++(wayL s wl x (us.drop k)).1,(wayL s wl x (us.drop k)).2)
section
variable{s:SiteD}{wl:List ServiceD}{us:List StepD}{y x:WorldD}{k:Nat}{ws:List WorldD}
theorem WayAt.start:WayAt s wl us y 0 [] y:=⟨rfl,rfl,rfl⟩
theorem WayAt.more(h:WayAt s wl us y k ws x)(hk:k<us.length)(e:applyE s wl x us[k]=0):WayAt s wl us y (k+1) (ws++[applyW s wl x us[k]]) (applyW s wl x us[k]):=by
 refine⟨by rw[List.length_append,h.l];rfl,(lastW_snoc ..).symm,?_⟩
 rw[h.r,List.drop_eq_getElem_cons hk,wayL,if_pos e,List.append_assoc];rfl
theorem WayAt.stop(h:WayAt s wl us y k ws x)(hk:k<us.length)(e:applyE s wl x us[k]≠0):wayL s wl y us=(ws,false):=by
 rw[h.r,List.drop_eq_getElem_cons hk,wayL,if_neg e,List.append_nil]
theorem WayAt.done(h:WayAt s wl us y us.length ws x):wayL s wl y us=(ws,true):=by
 rw[h.r,List.drop_length,wayL,List.append_nil]
end
theorem lastW_cons(a v:WorldD)(r:List WorldD):lastW (a::r) v=lastW r a:=by
 rw[lastW,lastW,List.getLast?_cons];rfl
theorem way_run{s:SiteD}{wl:List ServiceD}:∀(us:List StepD) (v z:WorldD),runU s wl v us=some z→(wayL s wl v us).2=true∧lastW (wayL s wl v us).1 v=z
 |[],v,z,h=>⟨rfl,by rw[runU] at h;exact Option.some.inj h⟩
 |u::t,v,z,h=>by
  rw[runU] at h
  split at h
  ·rename_i hr
   obtain⟨h1,h2⟩:=way_run t _ z h
   rw[wayL,if_pos (apply_iff.2 hr)]
   exact⟨h1,by rw[lastW_cons];exact h2⟩
  ·cases h
structure Sim (x y:WorldD):Prop where
 r:x.replicas=y.replicas
 l:x.hosts.length=y.hosts.length
 p:∀i:Int,(hostAt x i).phase=(hostAt y i).phase
theorem Sim.refl(x:WorldD):Sim x x:=⟨rfl,rfl,λ_=>rfl⟩
section
variable{s:SiteD}{wl:List ServiceD}{x y z:WorldD}{u st:StepD}
theorem Sim.trans(h:Sim x y)(k:Sim y z):Sim x z:=⟨h.r.trans k.r,h.l.trans k.l,λi=>(h.p i).trans (k.p i)⟩
theorem Sim.symm(h:Sim x y):Sim y x:=⟨h.r.symm,h.l.symm,λi=>(h.p i).symm⟩
theorem sim_ready(h:Sim x y)(hv:validB s wl y=true)(hr:readyB s wl x u=true):readyB s wl y u=true:=by
 have e:readyK x u=readyK y u:=by simp only[readyK,runsB,h.p,h.r]
 simp only[readyB,Bool.and_eq_true] at hr ⊢
 exact⟨⟨hr.1.1,hv⟩,e▸hr.2⟩
theorem hostAt_set{hs:List StateD}{l:List ReplicaD}{n:Nat}{a:StateD}{i:Int}(hn:n<hs.length):hostAt ⟨hs.set n a,l⟩ i=if i.toNat=n then a else hostAt ⟨hs,l⟩ i:=by
 simp only[hostAt]
 split
 ·rename_i e
  rw[e,List.getElem?_set_self hn];rfl
 ·rename_i e
  rw[List.getElem?_set_ne (λh=>e h.symm)]
theorem hostAt_apply(h:readyB s wl x u=true)(i:Int):hostAt (applyW s wl x u) i=if ¬(u.kind=1∨u.kind=2)∧i.toNat=u.host.toNat then newState (hostAt x u.host) u else hostAt x i:=by
 have o:=rdy_ok h
 rw[apply_eq h]
 unfold hostsA
 by_cases hk:u.kind=1∨u.kind=2
 ·rw[if_pos hk,if_neg (λh=>h.1 hk)];rfl
 ·rw[if_neg hk,hostAt_set (by have:=o.host;omega)]
  by_cases e:i.toNat=u.host.toNat
  ·rw[if_pos e,if_pos ⟨hk,e⟩]
  ·rw[if_neg e,if_neg (λh=>e h.2)];rfl
theorem fw_apply(h:readyB s wl x u=true)(i:Int)(hne:¬(u.kind=7∧u.host.toNat=i.toNat)):(hostAt (applyW s wl x u) i).firmware=(hostAt x i).firmware:=by
 rw[hostAt_apply h]
 split
 ·rename_i hc
  have e7:¬u.kind=7:=λe=>hne ⟨e,hc.2.symm⟩
  have e0:hostAt x u.host=hostAt x i:=by simp only[hostAt,hc.2]
  rw[e0]
  unfold newState
  repeat' split
  all_goals first|rfl|omega
 ·rfl
theorem sim_apply(h:Sim x y)(hx:readyB s wl x u=true)(hy:readyB s wl y u=true):Sim (applyW s wl x u) (applyW s wl y u):=by
 refine⟨by rw[apply_eq hx,apply_eq hy,h.r],by rw[touch_len hx,touch_len hy,h.l],λi=>?_⟩
 rw[hostAt_apply hx,hostAt_apply hy]
 split
 ·unfold newState
  repeat' split
  all_goals first|rfl|exact h.p _
 ·exact h.p i
theorem sim_flash(hx:readyB s wl x u=true)(h7:u.kind=7):Sim x (applyW s wl x u):=by
 refine⟨?_,(touch_len hx).symm,λi=>?_⟩
 ·rw[flash_eq hx h7]
 ·rw[hostAt_apply hx]
  split
  ·rename_i hc
   have e0:hostAt x u.host=hostAt x i:=by simp only[hostAt,hc.2]
   simp[newState,h7,e0]
  ·rfl
theorem runU_sim:∀(us:List StepD) (x y z:WorldD),Sim x y→validB s wl y=true→(∀u∈us,¬u.kind=7)→runU s wl x us=some z→∃z',runU s wl y us=some z'∧Sim z z'∧validB s wl z'=true∧∀i:Int,(hostAt z' i).firmware=(hostAt y i).firmware
 |[],x,y,z,h,hv,_,hr=>by
  rw[runU] at hr
  obtain rfl:=Option.some.inj hr
  exact⟨y,rfl,h,hv,λ_=>rfl⟩
 |u::t,x,y,z,h,hv,hk,hr=>by
  rw[runU] at hr
  split at hr
  ·rename_i hx
   have hy:=sim_ready h hv hx
   obtain⟨z',e,hs,hz,hf⟩:=runU_sim t _ (applyW s wl y u) z (sim_apply h hx hy) (apply_valid hy) (λa ha=>hk a (List.mem_cons_of_mem _ ha)) hr
   refine⟨z',by rw[runU,if_pos hy];exact e,hs,hz,λi=>?_⟩
   rw[hf,fw_apply hy]
   exact λh7=>hk u (List.mem_cons_self ..) h7.1
  ·cases hr
theorem undoK_ne{k:Int}(hk:k∈undoK x st):1≤k∧k≤6:=by
 unfold undoK at hk
 repeat' split at hk
 all_goals simp only[List.mem_cons,List.not_mem_nil,or_false] at hk
 all_goals omega
theorem undoS_ne:∀u∈undoS x st,¬u.kind=7:=λu hu=>by
 unfold undoS at hu
 obtain⟨k,hk,rfl⟩:=List.mem_map.1 hu
 have:=undoK_ne hk
 simp only;omega
theorem runU_append:∀(a b:List StepD) (v z:WorldD),runU s wl v a=some z→runU s wl v (a++b)=runU s wl z b
 |[],b,v,z,h=>by rw[runU] at h;obtain rfl:=Option.some.inj h;rfl
 |u::t,b,v,z,h=>by
  rw[runU] at h
  split at h
  ·rename_i hr
   rw[List.cons_append,runU,if_pos hr]
   exact runU_append t b _ z h
  ·cases h
end
section
variable{s:SiteD}{wl:List ServiceD}{steps:List StepD}{L:List Nat}{y:WorldD}{ws:List WorldD}
structure Run (s:SiteD) (wl:List ServiceD) (steps:List StepD) (L:List Nat) (y:WorldD) (ws:List WorldD):Prop where
 l:ws.length=L.length
 v0:validB s wl y=true
 at_:∀i (h:i<L.length),readyB s wl ((y::ws).getD i noW) (stA steps L[i])=true∧(y::ws).getD (i+1) noW=applyW s wl ((y::ws).getD i noW) (stA steps L[i])
theorem run_of(hr:(runL s wl steps L y).2=-1)(hv:validB s wl y=true):Run s wl steps L y (runL s wl steps L y).1:=by
 obtain⟨h1,h2⟩:=runL_ok L y hr
 exact⟨h1,hv,λi h=>⟨apply_iff.1 (h2 i h).1,(h2 i h).2⟩⟩
theorem Run.valid(h:Run s wl steps L y ws):∀i,i≤L.length→validB s wl ((y::ws).getD i noW)=true
 |0,_=>h.v0
 |i+1,hi=>by
  obtain⟨h1,h2⟩:=h.at_ i hi
  rw[h2]
  exact apply_valid h1
theorem Run.last(h:Run s wl steps L y ws):lastW ws y=(y::ws).getD L.length noW:=by
 rcases Nat.eq_zero_or_pos ws.length with h0|h0
 ·have e:ws=[]:=List.eq_nil_of_length_eq_zero h0
  subst e
  have:L.length=0:=by have:=h.l;simpa using this.symm
  rw[this];rfl
 ·rw[lastW_get h0,List.getD_eq_getElem?_getD]
  obtain⟨n,hn⟩:∃n,ws.length=n+1:=⟨ws.length - 1,by omega⟩
  have hl:L.length=n+1:=by have:=h.l;omega
  rw[hl,List.getElem?_cons_succ,List.getElem?_eq_getElem (by omega)]
  simp only[show ws.length - 1=n by omega];rfl
theorem Run.fw(h:Run s wl steps L y ws)(i:Int):∀k,k≤L.length→(hostAt ((y::ws).getD k noW) i).firmware=(hostAt y i).firmware∨∃j∈L,(stA steps j).kind=7∧(stA steps j).host.toNat=i.toNat
 |0,_=>.inl rfl
 |k+1,hk=>by
  obtain⟨h1,h2⟩:=h.at_ k hk
  rcases h.fw i k (by omega) with e|e
  ·by_cases hc:(stA steps L[k]).kind=7∧(stA steps L[k]).host.toNat=i.toNat
   ·exact .inr ⟨_,List.getElem_mem hk,hc⟩
   ·rw[h2,fw_apply h1 i hc];exact .inl e
  ·exact .inr e
theorem Run.back(h:Run s wl steps L y ws)(hf:∀i (hi:i<L.length),lastB s wl ((y::ws).getD i noW) (stA steps L[i])=true→(stA steps L[i]).kind=7):∀k,k≤L.length→∃z,runU s wl ((y::ws).getD L.length noW) (backS s wl steps (y::ws) ((xsL L).take k))=some z∧Sim ((y::ws).getD (L.length - k) noW) z∧validB s wl z=true∧∀i:Int,(hostAt z i).firmware=(hostAt ((y::ws).getD L.length noW) i).firmware
 |0,_=>⟨_,rfl,Sim.refl _,h.valid _ (Nat.le_refl _),λ_=>rfl⟩
 |k+1,hk=>by
  obtain⟨z,e,hs,hv,hfw⟩:=h.back hf k (by omega)
  have hi:L.length - 1 - k<L.length:=by omega
  have e1:L.length - k=(L.length - 1 - k)+1:=by omega
  have e2:L.length - (k+1)=L.length - 1 - k:=by omega
  obtain⟨h1,h2⟩:=h.at_ _ hi
  have hgd:L.getD (L.length - 1 - k) 0=L[L.length - 1 - k]:=by rw[List.getD_eq_getElem?_getD,List.getElem?_eq_getElem hi];rfl
  rw[e1,h2] at hs
  rw[xsL_take (by omega),backS_snoc,runU_append _ _ _ _ e,e2,backAt,hgd]
  have hl:=hf _ hi
  generalize (y::ws).getD (L.length - 1 - k) noW=x at *
  generalize stA steps L[L.length - 1 - k]=st at *
  have hu:undoL s wl x st=undoS x st:=by rw[undoL,if_pos (apply_iff.2 h1)]
  simp only[hu]
  by_cases hn:undoK x st=[]
  ·have h7:=hl (by simp[lastB,apply_iff.2 h1,undoS,hn])
   have:undoS x st=[]:=by simp[undoS,hn]
   rw[this]
   exact⟨z,rfl,(sim_flash h1 h7).trans hs,hv,hfw⟩
  ·obtain⟨z',k1,k2,k3,k4⟩:=runU_sim (undoS x st) _ z x hs hv undoS_ne (undo_back h1 hn)
   exact⟨z',k1,k2,k3,λi=>(k4 i).trans (hfw i)⟩
end
theorem leftN_at{x:Nat}{v:WorldD}{steps:List StepD}{hs:List StateD}{i:Nat}(hi:i<hs.length):∀k,(((leftN x v steps hs k).getD i ⟨0,0⟩).phase=(hs.getD i ⟨0,0⟩).phase)∧((∃j,x.testBit j=true∧(stA steps j).kind=7∧(stA steps j).host.toNat=i)∧((leftN x v steps hs k).getD i ⟨0,0⟩).firmware=(hostAt v i).firmware∨(∀j,j<k→¬(x.testBit j=true∧(stA steps j).kind=7∧(stA steps j).host.toNat=i))∧((leftN x v steps hs k).getD i ⟨0,0⟩).firmware=(hs.getD i ⟨0,0⟩).firmware)
 |0=>⟨rfl,.inr ⟨λj h=>absurd h (Nat.not_lt_zero _),rfl⟩⟩
 |k+1=>by
  obtain⟨h1,h2⟩:=leftN_at (x:=x) (v:=v) (steps:=steps) hi k
  rw[leftN,leftSt]
  by_cases hc:(x.testBit k&&(stA steps k).kind == 7)=true
  ·rw[if_pos hc]
   simp only[Bool.and_eq_true,beq_iff_eq] at hc
   by_cases he:(stA steps k).host.toNat=i
   ·have hlt:i<(leftN x v steps hs k).length:=by rw[leftN_len];exact hi
    rw[he]
    have hv:hostAt v (stA steps k).host=hostAt v i:=by simp[hostAt,he]
    simp only[List.getD_eq_getElem?_getD,List.getElem?_set_self hlt,Option.getD_some,hv]
    simp only[List.getD_eq_getElem?_getD] at h1
    exact⟨h1,.inl ⟨⟨k,hc.1,hc.2,he⟩,trivial⟩⟩
   ·have e:((leftN x v steps hs k).set (stA steps k).host.toNat ⟨((leftN x v steps hs k).getD (stA steps k).host.toNat ⟨0,0⟩).phase,(hostAt v (stA steps k).host).firmware⟩).getD i ⟨0,0⟩=(leftN x v steps hs k).getD i ⟨0,0⟩:=by
     rw[List.getD_eq_getElem?_getD,List.getElem?_set_ne he,←List.getD_eq_getElem?_getD]
    rw[e]
    refine⟨h1,?_⟩
    rcases h2 with h2|⟨h2,h3⟩
    ·exact .inl h2
    ·refine .inr ⟨λj hj=>?_,h3⟩
     rcases Nat.lt_succ_iff_lt_or_eq.1 hj with hj|rfl
     ·exact h2 j hj
     ·exact λhh=>he hh.2.2
  ·rw[if_neg hc]
   refine⟨h1,?_⟩
   rcases h2 with h2|⟨h2,h3⟩
   ·exact .inl h2
   ·refine .inr ⟨λj hj=>?_,h3⟩
    rcases Nat.lt_succ_iff_lt_or_eq.1 hj with hj|rfl
    ·exact h2 j hj
    ·exact λhh=>hc (by simp[hh.1,hh.2.1])
theorem hostAt_getD(x:WorldD)(i:Nat):hostAt x i=x.hosts.getD i ⟨0,0⟩:=by simp[hostAt,List.getD_eq_getElem?_getD]
theorem sim_eq{x y:WorldD}(h:Sim x y)(hf:∀i:Nat,i<x.hosts.length→(hostAt x i).firmware=(hostAt y i).firmware):x=y:=by
 obtain⟨xh,xr⟩:=x
 obtain⟨yh,yr⟩:=y
 obtain⟨hr,hl,hp⟩:=h
 simp only at hr hl hf
 subst hr
 congr 1
 refine List.ext_getElem hl λi h1 h2=>?_
 have e1:=hp i
 have e2:=hf i h1
 simp only[hostAt_getD,List.getD_eq_getElem?_getD,List.getElem?_eq_getElem h1,List.getElem?_eq_getElem h2,Option.getD_some] at e1 e2
 cases a:xh[i]
 cases b:yh[i]
 rw[a,b] at e1 e2
 simp only at e1 e2
 rw[e1,e2]
theorem returns24{s:SiteD}{wl:List ServiceD}{steps:List StepD}{L:List Nat}{y:WorldD}{ws:List WorldD}{x:Nat}(h:Run s wl steps L y ws)(hf:∀i (hi:i<L.length),lastB s wl ((y::ws).getD i noW) (stA steps L[i])=true→(stA steps L[i]).kind=7)
 (hL:∀j∈L,x.testBit j=true∧j<steps.length):(wayL s wl (lastW ws y) (backS s wl steps (y::ws) (xsL L))).2=true∧lastW (wayL s wl (lastW ws y) (backS s wl steps (y::ws) (xsL L))).1 (lastW ws y)=⟨leftN x (lastW ws y) steps y.hosts steps.length,y.replicas⟩∧(lastS s wl steps (y::ws) (xsL L)=[]→lastW (wayL s wl (lastW ws y) (backS s wl steps (y::ws) (xsL L))).1 (lastW ws y)=y):=by
 obtain⟨z,e,hs,hv,hfw⟩:=h.back hf L.length (Nat.le_refl _)
 rw[List.take_of_length_le (by rw[xsL_len];exact Nat.le_refl _)] at e
 rw[Nat.sub_self] at hs
 have hs:Sim y z:=hs
 rw[←h.last] at e hfw
 obtain⟨w1,w2⟩:=way_run _ _ _ e
 have hfy:=λi:Int=>h.fw i L.length (Nat.le_refl _)
 simp only[←h.last] at hfy
 refine⟨w1,?_,λhn=>?_⟩
 ·rw[w2]
  refine(sim_eq ⟨?_,?_,λi=>?_⟩ λi hi=>?_).symm
  ·exact hs.r
  ·show(leftN ..).length=_
   rw[leftN_len];exact hs.l
  ·rw[←hs.p i]
   have e1:hostAt ⟨leftN x (lastW ws y) steps y.hosts steps.length,y.replicas⟩ i=(leftN x (lastW ws y) steps y.hosts steps.length).getD i.toNat ⟨0,0⟩:=by simp[hostAt,List.getD_eq_getElem?_getD]
   have e2:hostAt y i=y.hosts.getD i.toNat ⟨0,0⟩:=by simp[hostAt,List.getD_eq_getElem?_getD]
   by_cases hi:i.toNat<y.hosts.length
   ·rw[e1,(leftN_at hi steps.length).1,e2]
   ·rw[e1,e2,List.getD_eq_getElem?_getD,List.getD_eq_getElem?_getD,List.getElem?_eq_none (by rw[leftN_len];omega),List.getElem?_eq_none (by omega)]
  ·have hi':i<y.hosts.length:=by have:i<(leftN x (lastW ws y) steps y.hosts steps.length).length:=hi;rwa [leftN_len] at this
   rw[hostAt_getD,hfw]
   show((leftN ..).getD i _).firmware=_
   rcases(leftN_at (x:=x) (v:=lastW ws y) (steps:=steps) hi' steps.length).2 with ⟨_,h3⟩|⟨h2,h3⟩
   ·exact h3
   ·rw[h3,←hostAt_getD]
    rcases hfy i with h4|⟨j,hj,h7,hh⟩
    ·exact h4.symm
    ·exact absurd ⟨(hL j hj).1,h7,by rw[hh];rfl⟩ (h2 j (hL j hj).2)
 ·rw[w2]
  refine(sim_eq hs λi hi=>?_).symm
  rw[hfw]
  rcases hfy i with h4|⟨j,hj,h7,hh⟩
  ·exact h4.symm
  ·exfalso
   obtain⟨n,hn1,rfl⟩:=List.getElem_of_mem hj
   obtain⟨r1,r2⟩:=h.at_ n hn1
   have hm:(n,L[n])∈xsL L:=List.mem_map.2 ⟨n,List.mem_reverse.2 (List.mem_range.2 hn1),by rw[List.getD_eq_getElem?_getD,List.getElem?_eq_getElem hn1];rfl⟩
   have hmem:L[n]∈lastS s wl steps (y::ws) (xsL L):=by
    unfold lastS
    refine List.mem_map.2 ⟨_,List.mem_filter.2 ⟨hm,?_⟩,rfl⟩
    show(decide (applyE s wl ((y::ws).getD n noW) (stA steps L[n])=0)&&(undoS ((y::ws).getD n noW) (stA steps L[n])).isEmpty)=true
    rw[apply_iff.2 r1]
    simp[undoS,undoK,h7]
   rw[hn] at hmem
   cases hmem
set_option maxHeartbeats 2000000
def worldsQ(e:Int)(s:SiteD)(wl:List ServiceD)(p:PlanD)(y:WorldD)(x:Int):List WorldD×Bool:=wayL s wl (wldW e s wl p y x) (backL e s wl p y x)
def worldsE(e:Int)(s:SiteD)(wl:List ServiceD)(p:PlanD)(y:WorldD)(x:Int):Int:=if wldE e s wl p y x=0 then(if (worldsQ e s wl p y x).2=true then 0 else 8) else wldE e s wl p y x
def worldsL(e:Int)(s:SiteD)(wl:List ServiceD)(p:PlanD)(y:WorldD)(x:Int):List WorldD:=if wldE e s wl p y x=0 then(if (worldsQ e s wl p y x).2=true then(worldsQ e s wl p y x).1 else[]) else[]
theorem backL_len{e x:Int}{s:SiteD}{wl:List ServiceD}{p:PlanD}{y:WorldD}(he:planErr s wl p=e):(backL e s wl p y x).length≤36:=by
 unfold backL
 split
 ·rename_i h0
  obtain⟨_,_,_,hl,_,_⟩:=seq_facts he (wldE_zero h0).1
  have:=backS_len (s:=s) (wl:=wl) (steps:=p.steps) (bs:=y::(runL s wl p.steps (seqF p x.toNat 4096 0) y).1) (xsL (seqF p x.toNat 4096 0))
  rw[xsL_len] at this
  omega
 ·exact Nat.zero_le _
section
variable{w:World}{B:Nat}{u:SiteVs}{sd:SiteD}{wv sv av hv rv:Value}{vs:List Value}{l:List SrvV}{p:PlanD}{y:WorldD}
theorem undoWorlds{x e:Int}(hT:TabW w)(hB:B≤w.heap.size)(hs:SiteR w B u sd)(hl:WishR w B wv l)(hpl:PlanR w B sv av vs p)(hx0:WorldR w B hv rv y)(he:planErr sd (l.map (·.x)) p=e) :
 CallsV Tryz.prog 14 #[.agg (siteC u sd).toArray,.agg #[wv],.agg #[hv,rv],.agg #[sv,av],intV x] w λr w'=>Ext w w'∧∃lv,r=.tuple #[lv,intV (worldsE e sd (l.map (·.x)) p y x)]∧OwnWL w' w.heap.size lv (worldsL e sd (l.map (·.x)) p y x):=by
 have⟨hn,hx⟩:=bg0 w
 have hs':=hs.sk hB
 have hl':=hl.sk hB
 have hp':=hpl.sk hB
 have hx':=hx0.sk hB
 have hS:=hs'.2.2.2.2.2.2
 have hW:=hl'.2.2
 have hP:=hp'.2.2.2.2.2.2
 have hX:=hx'.2.2.2.2
 have hbw:Bl B w w:=Bl.refl hB
 have hsv1:=hpl.s.one
 have hav1:=hp'.2.2.2.2.1
 have hh1:=hx0.h.one
 have hr1:=hx0.r.one
 have hT':=λw' (h:Ext w w')=>hT.ext h
 replace hT':Hid _:=hT'
 have hbl36:=backL_len (x:=x) (y:=y) he
 have he':Hid (planErr sd (l.map (·.x)) p=e):=he
 have hApp:=λw' (h1:Bl B w w') (h3:B≤w'.heap.size) {h r:Value} {x:WorldD} (hx:WorldR w' w'.heap.size h r x) (st:StepD)=>stepApply (st:=st) (B:=w'.heap.size) (Nat.le_refl _) ((hS w' h1).up24 h3) ((hW w' h1).up24 h3) hx
 replace hApp:Hid _:=hApp
 unfold worldsE worldsL worldsQ
 clear he hpl hx0 hp' hx' hs' hl'
 (refine callsV_of Tryz.func14 rfl KR KR ?_;rw[Tryz.results14])
 (repeat' first|(with_reducible first|exact⟨⟩|(refine gB ?_;intros)|refine gT ?_ ?_)|refine gs ?_|simp(maxDischargeDepth:=3) only[↓X,↓Y,↓Q,S1,↓reduceIte,Nat.reduceEqDiff,Nat.reduceAdd,Int.reduceLT,Int.reduceLE,Int.reduceNeg,Int.reduceBEq,Int.reduceBNe,Int.reduceEq,Nat.reduceLeDiff,Nat.reduceMul,Nat.reduceLT, *,siteC]|simp(singlePass:=true) (maxDischargeDepth:=99) only[*,S2,Nat.reduceLT,siteC])
 rename_i b5 w5 n5 k5 s5 q5 b6 w6 n6 k6 s6 q6 b7 w7 n7 k7 s7 q7 b8 w8 n8 k8 s8 q8
 refine call_k (undoBack (x:=x) (B:=B) (hT'.out _ FR) FR (hS _ FR) (hW _ FR) (hP _ FR) (hX _ FR) he'.out) ?_
 rintro _ w1 n1 s1 ⟨bv,lv,rfl,obv,olv⟩
 have obv1:=obv.one
 have olv1:=olv.one
 clear olv
 by_cases h0:wldE e sd (l.map (·.x)) p y x=0
 rotate_left
 ·simp only[if_neg h0]
  clear obv hbl36
  generalize wldE e sd (l.map (·.x)) p y x=E at *
  have hE1:(E == 0)=false:=by simpa using h0
  have hE2:(E != 0)=true:=by simpa using h0
  (repeat' first|(with_reducible first|exact⟨⟩|(refine gB ?_;intros)|refine gT ?_ ?_)|refine gs ?_|refine sx ?_)
  exact⟨_,rfl,OwnWL.nil _ _⟩
 have hwq:Hid (∀w',Ext w w'→Bl B w w'→B≤w'.heap.size→CallsV Tryz.prog 30 #[.agg (siteC u sd).toArray,.agg #[wv],.agg #[hv,rv],.agg #[sv,av],intV x] w' λr w2=>Ext w' w2∧∃v0,r=.tuple #[v0,intV 0]∧OwnW w'.heap.size v0 w2 (wldW e sd (l.map (·.x)) p y x)):=λw' h1 h2 h3=>by
  have:=prefixWorld (x:=x) (B:=B) (hT'.out _ h1) h3 (hS _ h2) (hW _ h2) (hP _ h2) (hX _ h2) he'.out
  rwa [h0] at this
 simp only[h0,if_true]
 have KB:=(obv.slN (f:=stepC)).k (Nat.le_refl _)
 rw[show(λx=>Value.agg (stepC x).toArray)=stepV from rfl] at KB
 have bl1:Bl w1.heap.size w1 w1:=Bl.refl (Nat.le_refl _)
 generalize backL e sd (l.map (·.x)) p y x=us at *
 generalize wldW e sd (l.map (·.x)) p y x=v at *
 clear obv h0
 (repeat' first|(with_reducible first|exact⟨⟩|(refine gB ?_;intros)|refine gT ?_ ?_)|refine gs ?_|refine sx ?_)
 refine call_k (hwq.out _ FR FR FR) ?_
 rintro _ w2 n2 s2 ⟨v0,rfl,h0a,r0a,rfl,oh0,or0⟩
 have oh01:=oh0.one
 have or01:=or0.one
 have hohx:Hid (∀w',Ext w2 w'→WorldR w' w'.heap.size h0a r0a v):=λw' h=>⟨((oh0.ext h).slN (f:=stateC)),((or0.ext h).slN (f:=replC))⟩
 clear oh0 or0 hwq
 (repeat' first|(with_reducible first|exact⟨⟩|(refine gB ?_;intros)|refine gT ?_ ?_)|refine gs ?_|refine sx ?_)
 rename_i b15 wa na ka sa qa wb nb kb sb
 have hkb:Blk wb b15 36 [h0a,r0a]:=kb.2.1 _ kb.2.2.1
 have r2:=Ext.refl w2
 have hXb:WorldR wb wb.heap.size h0a r0a v:=hohx.out _ FR
 have hbl15:b15<wb.heap.size:=hkb.lt
 have hwb:w.heap.size≤wb.heap.size:=FR
 clear kb ka hohx
 refine loop_b b15 us.length (λg0 k g w'=>g 44=.int .i64 (k:Int)∧(g 5=g0 5∧g 6=g0 6∧g 15=g0 15∧g 42=g0 42∧g 43=g0 43)∧∃lv,g 17=lv∧∃h r x ws,Blk w' b15 36 [h,r]∧WorldR w' w'.heap.size h r x∧OwnWL w' wb.heap.size lv ws∧Hid (WayAt sd (l.map (·.x)) us v k ws x)) KR (by omega) FR ?_ ?_ ?_
 ·(repeat' first|(with_reducible first|exact⟨⟩|(refine gB ?_;intros)|refine gT ?_ ?_)|refine gs ?_|refine sx ?_)
  exact⟨_,rfl,h0a,r0a,v,[],hkb,hXb,OwnWL.nil _ _,WayAt.start⟩
 ·clear hXb hkb
  rintro k m g wk hk hlt nk sk ck hbl hw ⟨hi,hf,lv,hlv,h,r,x,ws,hbk,hXw,hown,hp⟩
  simp(maxDischargeDepth:=3) only[U,↓reduceIte,Nat.reduceEqDiff, *] at hf
  have kb15:=hbk.bk
  have hwk:w.heap.size≤wk.heap.size:=FR
  have hwbk:wb.heap.size≤wk.heap.size:=FR
  have hXk:=(hXw.sk (Nat.le_refl _)).2.2.2.2
  have h7h:=hXw.h.one
  have h7r:=hXw.r.one
  have h7lv:=hown.one
  have bwk:Bl wk.heap.size wk wk:=Bl.refl (Nat.le_refl _)
  have hBk:B≤wk.heap.size:=Nat.le_trans hB hwk
  have hAp:=λw' (h1:Bl B w w') (h2:Bl wk.heap.size wk w') (h3:wk.heap.size≤w'.heap.size)=>stepApply (st:=us[k]) (B:=wk.heap.size) h3 ((hS w' h1).up24 hBk) ((hW w' h1).up24 hBk) (hXk w' h2)
  have hwsl:ws.length<1000000000000:=by rw[hp.out.l];omega
  have hrun0:=λe=>hp.out.more hlt e
  have hrun1:=λe=>hp.out.stop hlt e
  generalize applyE sd (l.map (·.x)) x us[k]=E at *
  generalize applyW sd (l.map (·.x)) x us[k]=W' at *
  replace hrun0:Hid _:=hrun0
  replace hrun1:Hid _:=hrun1
  have hownx:Hid (∀w',Ext wk w'→OwnWL w' wb.heap.size lv ws):=λw' h=>hown.ext h
  have rk:=Ext.refl wk
  clear hp hXk hXw hown
  (repeat' first|(with_reducible first|exact⟨⟩|(refine gB ?_;intros)|refine gT ?_ ?_)|refine gs ?_|simp(maxDischargeDepth:=3) only[↓X,↓Y,↓Q,S1,↓reduceIte,Nat.reduceEqDiff,Nat.reduceAdd,Int.reduceLT,Int.reduceLE,Int.reduceNeg,Int.reduceBEq,Int.reduceBNe,Int.reduceEq,Nat.reduceLeDiff,Nat.reduceMul,Nat.reduceLT, *,stepV,stepC]|simp(singlePass:=true) (maxDischargeDepth:=99) only[*,S2,Nat.reduceLT,stepV,stepC])
  refine call_k (hAp _ FR FR FR) ?_
  rintro _ wA nA sA ⟨_,rfl,hA,rA,rfl,ohA,orA⟩
  have HA:=ohA.one
  have RA:=orA.one
  have hkA:Blk wA b15 36 [h,r]:=kb15.2.1 _ FR
  have cA:Cg b15 wA wA:=Chg.refl' wA b15
  have F1:Hid (OwnWL wA wb.heap.size lv ws∧OwnH wA wb.heap.size hA W'.hosts∧OwnP wA wb.heap.size rA W'.replicas):=⟨hownx.out _ FR,ohA.more FR,orA.more FR⟩
  clear ohA orA
  by_cases hE0:E=0
  ·subst hE0
   have hrn:=hrun0.out rfl
   replace hrn:Hid _:=hrn
   clear hApp hAp hrun1 hrun0 hownx
   (repeat' first|(with_reducible first|exact⟨⟩|(refine gB ?_;intros)|refine gT ?_ ?_)|refine gs ?_|refine sx ?_)
   rename_i wz nz kz sz b10 w10 n10 k10 s10 q10
   have cz:Cg b15 wA wz:=FR
   have rz:=Ext.refl wz
   have hxz:Ext wz w10:=FR
   have F2:OwnWL wz wb.heap.size lv ws∧OwnH wz wb.heap.size hA W'.hosts∧OwnP wz wb.heap.size rA W'.replicas:=⟨OwnWL.fr F1.out.1 hkA cz hbl15,F1.out.2.1.fr hkA cz (.inl (by decide)),F1.out.2.2.fr hkA cz (.inl (by decide))⟩
   have hlvlt:Hid (∀c,lv.ownBlock=some c→wb.heap.size≤c):=λc hc=>by obtain⟨us',_,h4,_⟩:=F2.1;exact(h4.lt c hc).1
   refine appW (F2.1.ext hxz) (F2.2.1.ext hxz) (F2.2.2.ext hxz) (k10.2.1 _ FR) hwsl FR λv' w11 n11 s11 hO hOh hOr hkeep=>?_
   have kwB:Blk w11 b15 36 [hA,rA]:=by
    have h1:Blk w10 b15 36 [hA,rA]:=kz.2.1 _ FR
    refine(hkeep b15 h1.lt λe=>?_).trans h1
    have:=hlvlt.out _ e.symm
    omega
   have F:Hid (OwnWL w11 wb.heap.size v' (ws++[W'])∧WorldR w11 w11.heap.size hA rA W'∧Blk w11 b15 36 [hA,rA]):=⟨hO,⟨hOh.slN (f:=stateC),hOr.slN (f:=replC)⟩,kwB⟩
   have c11:Cg b15 wb w11:=FR
   clear hO hOh hOr hkeep F2 kwB
   (repeat' first|(with_reducible first|exact⟨⟩|(refine gB ?_;intros)|refine gT ?_ ?_)|refine gs ?_|refine sx ?_)
   refine next_b hk hlt ?_ FR
   (repeat' first|(with_reducible first|exact⟨⟩|(refine gB ?_;intros)|refine gT ?_ ?_)|refine gs ?_|refine sx ?_)
   exact⟨_,rfl,hA,rA,W',_,F.out.2.2,F.out.2.1,F.out.1,hrn.out⟩
  ·have hE1:(E == 0)=false:=by simpa using hE0
   have hE2:(E != 0)=true:=by simpa using hE0
   have hst9:=hrun1.out hE0
   rw[hst9]
   simp only[Bool.false_eq_true,if_false]
   clear hApp hAp hrun1 hrun0 hst9 hownx
   (repeat' first|(with_reducible first|exact⟨⟩|(refine gB ?_;intros)|refine gT ?_ ?_)|refine gs ?_|refine sx ?_)
   exact⟨_,rfl,OwnWL.nil _ _⟩
 ·rintro g wk nk sk ck hbl ⟨hi,hf,lv,hlv,h,r,x,ws,hbk,hXw,hown,hp⟩
  simp(maxDischargeDepth:=3) only[U,↓reduceIte,Nat.reduceEqDiff, *] at hf
  rw[hp.out.done]
  simp only[if_true]
  have hownx:Hid (∀w',Ext wk w'→OwnWL w' wb.heap.size lv ws):=λw' h=>hown.ext h
  have rk:=Ext.refl wk
  have h7lv:=hown.one
  clear hApp hown hp hXw
  (repeat' first|(with_reducible first|exact⟨⟩|(refine gB ?_;intros)|refine gT ?_ ?_)|refine gs ?_|refine sx ?_)
  exact⟨_,rfl,(hownx.out _ FR).more hwb⟩
end
end Go.Proofs.YtphciegaokdolaaGreatDoor
