/- The document's answer, layer 19: Valid, runs, Ready. -/
import Derived.Test.YtphciegaokdolaaGreatDoorStep2
import Derived.Test.YtphciegaokdolaaGreatDoorRef13
import Derived.Test.YtphciegaokdolaaGreatDoorStart13
import Derived.Test.YtphciegaokdolaaGreatDoorCopy13
namespace Go.Proofs.YtphciegaokdolaaGreatDoor
set_option linter.unusedSimpArgs false
set_option linter.unusedVariables false
open Go Go.RowKit
set_option maxRecDepth 100000
set_option linter.unusedSectionVars false
set_option maxHeartbeats 2000000
theorem sxRef190{p q:Prop}(hq:q)(h:p=q:=by first|(simp(maxDischargeDepth:=3) only[↓X,↓Y,↓Q,S1,↓reduceIte,Nat.reduceEqDiff,Nat.reduceAdd,Int.reduceLT,Int.reduceLE,Int.reduceNeg,Int.reduceBEq,Int.reduceBNe,Int.reduceEq,Nat.reduceLeDiff,Nat.reduceMul,Nat.reduceLT, *,siteC,stepV,stepC];try exact rfl)|(simp(singlePass:=true) (maxDischargeDepth:=99) only[*,S2,Nat.reduceLT,siteC,stepV,stepC];try exact rfl)):p:=h▸hq
theorem sxRef192{p q:Prop}(hq:q)(h:p=q:=by first|(simp(maxDischargeDepth:=3) only[↓X,↓Y,↓Q,S1,↓reduceIte,Nat.reduceEqDiff,Nat.reduceAdd,Int.reduceLT,Int.reduceLE,Int.reduceNeg,Int.reduceBEq,Int.reduceBNe,Int.reduceEq,Nat.reduceLeDiff,Nat.reduceMul,Nat.reduceLT, *,siteC,stepV,stepC,stateV,replicaV];try exact rfl)|(simp(singlePass:=true) (maxDischargeDepth:=99) only[*,S2,Nat.reduceLT,siteC,stepV,stepC,stateV,replicaV];try exact rfl)):p:=h▸hq
theorem sxRef193{p q:Prop}(hq:q)(h:p=q:=by first|(simp(maxDischargeDepth:=3) only[↓X,↓Y,↓Q,S1,↓reduceIte,Nat.reduceEqDiff,Nat.reduceAdd,Int.reduceLT,Int.reduceLE,Int.reduceNeg,Int.reduceBEq,Int.reduceBNe,Int.reduceEq,Nat.reduceLeDiff,Nat.reduceMul,Nat.reduceLT, *,stateV];try exact rfl)|(simp(singlePass:=true) (maxDischargeDepth:=99) only[*,S2,Nat.reduceLT,stateV];try exact rfl)):p:=h▸hq
section
variable{w:World}{B:Nat}{u:SiteVs}{s:SiteD}{wv hv rv:Value}{l:List SrvV}{x:WorldD}{st:StepD}{wl:List ServiceD}
def StepP(nh nw:Int)(st:StepD):Prop:=0≤st.host∧st.host<nh∧(((st.kind=1∨st.kind=2)∧0≤st.service∧st.service<nw∧st.version=0)∨((3≤st.kind∧st.kind≤6)∧st.service=0∧st.version=0)∨(st.kind=7∧st.service=0∧0≤st.version∧st.version≤1000000))
instance (nh nw:Int) (st:StepD):Decidable (StepP nh nw st):=by unfold StepP;infer_instance
theorem stepB2_P(h1:siteB s=true)(h2:wishB wl=true):stepB2 s wl st=decide (StepP s.hosts.length wl.length st):=by
 rw[Bool.eq_iff_iff,decide_eq_true_eq]
 unfold StepP
 simp only[stepB2,kindOk,stepOkB,h1,h2,Bool.and_eq_true,decide_eq_true_eq,Bool.or_eq_true,beq_iff_eq,Bool.true_and,true_and]
 by_cases hk:st.kind=1∨st.kind=2
 ·rw[if_pos hk]
  by_cases h7:st.kind=7
  ·omega
  ·rw[if_neg h7];constructor<;>intro h<;>omega
 ·rw[if_neg hk]
  by_cases h7:st.kind=7
  ·rw[if_pos h7];constructor<;>intro h<;>omega
  ·rw[if_neg h7];constructor<;>intro h<;>omega
theorem ref19Valid(hB:B≤w.heap.size)(hs:SiteR w B u s)(hl:WishR w B wv l):Ret Tryz.prog 70 #[.agg (siteC u s).toArray,.agg #[wv],stepV st] w (.bool (stepB2 s (l.map (·.x)) st)):=by
 have⟨hn,hx⟩:=bg0 w
 have hs':=hs.sk hB
 have hl':=hl.sk hB
 have hS:=hs'.2.2.2.2.2.2
 have hW:=hl'.2.2
 have hv1:=λw' (h1:Bl B w w') (h3:B≤w'.heap.size)=>ref12Valid h3 (hS w' h1)
 have hv2:=λw' (h1:Bl B w w') (h3:B≤w'.heap.size)=>ref13ValidWish h3 (hW w' h1)
 have hP:siteB s=true→wishB (l.map (·.x))=true→Hid (stepB2 s (l.map (·.x)) st=decide (StepP s.hosts.length l.length st)):=λh1 h2=>by
  have:=stepB2_P (st:=st) h1 h2
  rwa [List.length_map] at this
 have hN:siteB s=false∨wishB (l.map (·.x))=false→Hid (stepB2 s (l.map (·.x)) st=false):=λh=>by
  show _=_
  rcases h with h|h<;>simp[stepB2,stepOkB,h]
 generalize stepB2 s (l.map (·.x)) st=r at *
 generalize siteB s=sb at *
 generalize wishB (l.map (·.x))=wb at *
 (refine callsV_of Tryz.func70 rfl KR KR ?_;rw[Tryz.results70])
 cases sb
 ·obtain rfl:=(hN (.inl rfl)).out
  clear hN hP hv2
  (repeat' first|(with_reducible first|exact⟨⟩|(refine gB ?_;intros)|refine gT ?_ ?_)|refine gs ?_|((with_reducible refine at_f 83 ?_);refine ret_k (hv1 _ FR FR) λ_ _ _=>?_)|refine sxRef190 ?_)
 cases wb
 ·obtain rfl:=(hN (.inr rfl)).out
  clear hN hP
  (repeat' first|(with_reducible first|exact⟨⟩|(refine gB ?_;intros)|refine gT ?_ ?_)|refine gs ?_|((with_reducible refine at_f 83 ?_);refine ret_k (hv1 _ FR FR) λ_ _ _=>?_)|((with_reducible refine at_f 84 ?_);refine ret_k (hv2 _ FR FR) λ_ _ _=>?_)|refine sxRef190 ?_)
 obtain hr:=hP rfl rfl
 clear hN hP
 (repeat' first|(with_reducible first|exact⟨⟩|(refine gB ?_;intros)|refine gT ?_ ?_)|refine gs ?_|((with_reducible refine at_f 83 ?_);refine ret_k (hv1 _ FR FR) λ_ _ _=>?_)|((with_reducible refine at_f 84 ?_);refine ret_k (hv2 _ FR FR) λ_ _ _=>?_)|refine sxRef190 ?_)
 all_goals (have hr:=hr.out;subst hr;refine congrArg Value.bool ?_;rw[Bool.eq_iff_iff];simp only[beq_iff_eq,decide_eq_true_eq,Bool.false_eq_true,false_iff,true_iff,iff_true];unfold StepP;first|omega|(constructor<;>intro h<;>omega))
theorem ref19runs{h:Int}(hB:B≤w.heap.size)(hx0:WorldR w B hv rv x):Ret Tryz.prog 76 #[.agg #[hv,rv],intV h] w (.bool (runsB x h)):=by
 have⟨hn,hx⟩:=bg0 w
 have hx':=hx0.sk hB
 (refine callsV_of Tryz.func76 rfl KR KR ?_;rw[Tryz.results76])
 (repeat' first|(with_reducible first|exact⟨⟩|(refine gB ?_;intros)|refine gT ?_ ?_)|refine gs ?_|refine sx ?_)
 refine loop_k (x.replicas.length) (λg0 k g _=>g 5=.int .i64 k∧(g 1=g0 1∧g 2=g0 2)∧Hid ((x.replicas.take k).any (λr=>r.host == h)=false)) KR (hx0.r.max_) ?_ ?_ ?_
 ·(repeat' first|(with_reducible first|exact⟨⟩|(refine gB ?_;intros)|refine gT ?_ ?_)|refine gs ?_|simp(maxDischargeDepth:=3) only[↓X,↓Y,↓Q,S1,↓reduceIte,Nat.reduceEqDiff,Nat.reduceAdd,Int.reduceLT,Int.reduceLE,Int.reduceNeg,Int.reduceBEq,Int.reduceBNe,Int.reduceEq,Nat.reduceLeDiff,Nat.reduceMul,Nat.reduceLT, *,List.take_zero,List.all_nil,List.any_nil]|simp(singlePass:=true) (maxDischargeDepth:=99) only[*,S2,Nat.reduceLT,List.take_zero,List.all_nil,List.any_nil])
  trivial
 ·rintro k m g wk hk hlt _ _ _ hw ⟨hi,hf,hp⟩
  simp(maxDischargeDepth:=3) only[U,↓reduceIte,Nat.reduceEqDiff, *] at hf
  have ha:=any_take hlt (λr=>r.host == h)
  (repeat' first|(with_reducible first|exact⟨⟩|(refine gB ?_;intros)|refine gT ?_ ?_)|refine gs ?_|simp(maxDischargeDepth:=3) only[↓X,↓Y,↓Q,S1,↓reduceIte,Nat.reduceEqDiff,Nat.reduceAdd,Int.reduceLT,Int.reduceLE,Int.reduceNeg,Int.reduceBEq,Int.reduceBNe,Int.reduceEq,Nat.reduceLeDiff,Nat.reduceMul,Nat.reduceLT, *,replicaV]|simp(singlePass:=true) (maxDischargeDepth:=99) only[*,S2,Nat.reduceLT,replicaV])
  ·rename_i e
   have:runsB x h=true:=any_at hlt (by simpa using e)
   rw[this]
  ·rename_i e
   refine next_k hk hlt ?_ FR
   have hp':=hp.out
   have he:(x.replicas[k].host == h)=false:=by simpa using e
   (repeat' first|(with_reducible first|exact⟨⟩|(refine gB ?_;intros)|refine gT ?_ ?_)|refine gs ?_|simp(maxDischargeDepth:=3) only[↓X,↓Y,↓Q,S1,↓reduceIte,Nat.reduceEqDiff,Nat.reduceAdd,Int.reduceLT,Int.reduceLE,Int.reduceNeg,Int.reduceBEq,Int.reduceBNe,Int.reduceEq,Nat.reduceLeDiff,Nat.reduceMul,Nat.reduceLT, *,ha,he,hp']|simp(singlePass:=true) (maxDischargeDepth:=99) only[*,S2,Nat.reduceLT,ha,he,hp'])
   trivial
 ·rintro g wk _ _ _ ⟨hi,hf,hp⟩
  simp(maxDischargeDepth:=3) only[U,↓reduceIte,Nat.reduceEqDiff, *] at hf
  rw[take_all'] at hp
  have hp':runsB x h=false:=hp.out
  (repeat' first|(with_reducible first|exact⟨⟩|(refine gB ?_;intros)|refine gT ?_ ?_)|refine gs ?_|refine sx ?_)
theorem ref19Ready(hB:B≤w.heap.size)(hs:SiteR w B u s)(hl:WishR w B wv l)(hx0:WorldR w B hv rv x):Ret Tryz.prog 71 #[.agg (siteC u s).toArray,.agg #[wv],.agg #[hv,rv],stepV st] w (.bool (readyB s (l.map (·.x)) x st)):=by
 have⟨hn,hx⟩:=bg0 w
 obtain⟨kd,hst,sv,vr⟩:=st
 have hs':=hs.sk hB
 have hl':=hl.sk hB
 have hx':=hx0.sk hB
 have hS:=hs'.2.2.2.2.2.2
 have hW:=hl'.2.2
 have hX:=hx'.2.2.2.2
 have hv1:=λw' (h1:Bl B w w') (h3:B≤w'.heap.size)=>ref19Valid (st:=⟨kd,hst,sv,vr⟩) h3 (hS w' h1) (hW w' h1)
 have hv2:=λw' (h1:Bl B w w') (h3:B≤w'.heap.size)=>ref13Valid h3 (hS w' h1) (hW w' h1) (hX w' h1)
 have hr:readyB s (l.map (·.x)) x ⟨kd,hst,sv,vr⟩=(stepB2 s (l.map (·.x)) ⟨kd,hst,sv,vr⟩&&validB s (l.map (·.x)) x&&readyK x ⟨kd,hst,sv,vr⟩):=rfl
 have hp:stepB2 s (l.map (·.x)) ⟨kd,hst,sv,vr⟩=true→validB s (l.map (·.x)) x=true→Hid ((1≤kd∧kd≤7)∧(0≤hst∧hst<x.hosts.length)):=λh1 h2=>by
  have a:=step_parts h1
  have b:=valid_parts h2
  exact⟨a.1,a.2.2.2.1,by have:=a.2.2.2.2.1;simp only at this;omega⟩
 rw[hr]
 clear hr
 generalize stepB2 s (l.map (·.x)) ⟨kd,hst,sv,vr⟩=sb at *
 generalize validB s (l.map (·.x)) x=vb at *
 (refine callsV_of Tryz.func71 rfl KR KR ?_;rw[Tryz.results71])
 cases sb
 ·clear hv2 hp
  (repeat' first|(with_reducible first|exact⟨⟩|(refine gB ?_;intros)|refine gT ?_ ?_)|refine gs ?_|((with_reducible refine at_f 70 ?_);refine ret_k (hv1 _ FR FR) λ_ _ _=>?_)|refine sxRef190 ?_)
 cases vb
 ·clear hp
  (repeat' first|(with_reducible first|exact⟨⟩|(refine gB ?_;intros)|refine gT ?_ ?_)|refine gs ?_|((with_reducible refine at_f 70 ?_);refine ret_k (hv1 _ FR FR) λ_ _ _=>?_)|((with_reducible refine at_f 45 ?_);refine ret_k (hv2 _ FR FR) λ_ _ _=>?_)|refine sxRef190 ?_)
 have hq:=hp rfl rfl
 clear hp
 obtain⟨k,rfl⟩:∃k:Nat,hst=k:=⟨hst.toNat,by have:=hq.out.2;omega⟩
 have hlt:k<x.hosts.length:=by have:=hq.out.2;omega
 have hat:hostAt x k=x.hosts[k]:=by simp[hostAt,hlt]
 have hkd:Hid (1≤kd∧kd≤7):=hq.out.1
 have hrk:Hid (∀r,(if kd=1 then x.hosts[k].phase == 0&&!hasB x.replicas ⟨sv,k⟩&&decide (x.replicas.length<24) else if kd=2 then hasB x.replicas ⟨sv,k⟩ else if kd=3 then x.hosts[k].phase == 0 else if kd=4 then x.hosts[k].phase == 1&&!runsB x k
  else if kd=5 then x.hosts[k].phase == 2&&!runsB x k else if kd=6 then x.hosts[k].phase == 1||x.hosts[k].phase == 2||x.hosts[k].phase == 3 else x.hosts[k].phase == 2)=r→readyK x ⟨kd,k,sv,vr⟩=r):=λr h=>by
  rw[←h]
  simp only[readyK,hat]
  rfl
 clear hq hat
 have hha:=λw' (h1:Bl B w w') (h3:B≤w'.heap.size)=>ref13Has (r:=⟨sv,k⟩) h3 (hX w' h1)
 have hru:=λw' (h1:Bl B w w') (h3:B≤w'.heap.size)=>ref19runs (h:=k) h3 (hX w' h1)
 generalize hasB x.replicas ⟨sv,k⟩=hb at *
 generalize runsB x k=rb at *
 generalize readyK x ⟨kd,k,sv,vr⟩=rk at *
 have h24:decide ((x.replicas.length:Int)<24)=decide (x.replicas.length<24):=by rw[Bool.eq_iff_iff];simp;omega
 generalize decide (x.replicas.length<24)=c24 at *
 replace hha:Hid _:=hha
 replace hru:Hid _:=hru
 (repeat' first|(with_reducible first|exact⟨⟩|(refine gB ?_;intros)|refine gT ?_ ?_)|refine gs ?_|((with_reducible refine at_f 70 ?_);refine ret_k (hv1 _ FR FR) λ_ _ _=>?_)|((with_reducible refine at_f 45 ?_);refine ret_k (hv2 _ FR FR) λ_ _ _=>?_)|((with_reducible refine at_f 128 ?_);refine ret_k (hha.out _ FR FR) λ_ _ _=>?_)|((with_reducible refine at_f 76 ?_);refine ret_k (hru.out _ FR FR) λ_ _ _=>?_)|refine sxRef192 ?_)
 all_goals (refine congrArg Value.bool (hrk.out _ ?_).symm)
 all_goals first
  |rw[if_pos (by assumption)]
  |rw[if_neg (by assumption),if_pos (by assumption)]
  |rw[if_neg (by assumption),if_neg (by assumption),if_pos (by assumption)]
  |rw[if_neg (by assumption),if_neg (by assumption),if_neg (by assumption),if_pos (by assumption)]
  |rw[if_neg (by assumption),if_neg (by assumption),if_neg (by assumption),if_neg (by assumption),if_pos (by assumption)]
  |rw[if_neg (by assumption),if_neg (by assumption),if_neg (by assumption),if_neg (by assumption),if_neg (by assumption),if_pos (by assumption)]
  |rw[if_neg (by assumption),if_neg (by assumption),if_neg (by assumption),if_neg (by assumption),if_neg (by assumption),if_neg (by assumption)]
 all_goals (try simp only[*,Bool.not_true,Bool.not_false,Bool.true_and,Bool.and_true,Bool.false_and,Bool.and_false,Bool.true_or,Bool.or_true,Bool.false_or,Bool.or_false,beq_self_eq_true,Int.reduceBEq])
end
section
variable{w:World}{B:Nat}{u:SiteVs}{s:SiteD}{wv hv rv:Value}{l:List SrvV}{x:WorldD}{st:StepD}{wl:List ServiceD}
theorem ref19Apply(hB:B≤w.heap.size)(hs:SiteR w B u s)(hl:WishR w B wv l)(hx0:WorldR w B hv rv x):CallsV Tryz.prog 38 #[.agg (siteC u s).toArray,.agg #[wv],.agg #[hv,rv],stepV st] w λv w'=>Ext w w'∧∃v0,v=.tuple #[v0,intV (applyE s (l.map (·.x)) x st)]∧OwnW w.heap.size v0 w' (applyW s (l.map (·.x)) x st):=by
 have⟨hn,hx⟩:=bg0 w
 have hs':=hs.sk hB
 have hl':=hl.sk hB
 have hx':=hx0.sk hB
 have hS:=hs'.2.2.2.2.2.2
 have hW:=hl'.2.2
 have hX:=hx'.2.2.2.2
 have hv1:=λw' (h1:Bl B w w') (h3:B≤w'.heap.size)=>ref19Valid (st:=st) h3 (hS w' h1) (hW w' h1)
 have hv2:=λw' (h1:Bl B w w') (h3:B≤w'.heap.size)=>ref13Valid h3 (hS w' h1) (hW w' h1) (hX w' h1)
 have hv3:=λw' (h1:Bl B w w') (h3:B≤w'.heap.size)=>ref19Ready (st:=st) h3 (hS w' h1) (hW w' h1) (hX w' h1)
 have hr:readyB s (l.map (·.x)) x st=(stepB2 s (l.map (·.x)) st&&validB s (l.map (·.x)) x&&readyK x st):=rfl
 have hp:readyB s (l.map (·.x)) x st=true→Hid (RdyOk s (l.map (·.x)) x st∧applyE s (l.map (·.x)) x st=0∧(x.hosts.length≤1000000∧x.replicas.length≤1000000)
  ∧ (st.kind=1→startE x (replOf st)=0∧applyW s (l.map (·.x)) x st=startW x (replOf st))∧(st.kind=2→stopE x (replOf st)=0∧applyW s (l.map (·.x)) x st=stopW x (replOf st))
  ∧ (st.kind≠1→st.kind≠2→setE x st.host=0∧applyW s (l.map (·.x)) x st=setW x st.host (newState (hostAt x st.host) st))):=λh=>by
  refine⟨rdy_ok h,apply_zero h,apply_parts h,λh1=>?_,λh2=>?_,λh1 h2=>?_⟩
  ·have:=start_parts h h1
   exact⟨this.2.2.2.1,by rw[applyW,if_pos h,if_pos h1]⟩
  ·have:=stop_parts h h2
   exact⟨this.2.1,by rw[applyW,if_pos h,if_neg (by omega),if_pos h2]⟩
  ·exact⟨by simp[setE,set_ok (rdy_ok h)],by rw[applyW,if_pos h,if_neg h1,if_neg h2]⟩
 have hn1:(stepB2 s (l.map (·.x)) st&&validB s (l.map (·.x)) x)=false→Hid (applyE s (l.map (·.x)) x st=1∧applyW s (l.map (·.x)) x st=noW):=λh=>⟨by unfold applyE;rw[if_neg (by simp[h])],by unfold applyW;rw[if_neg (by rw[hr,h];simp)]⟩
 have hn2:(stepB2 s (l.map (·.x)) st&&validB s (l.map (·.x)) x)=true→readyK x st=false→Hid (applyE s (l.map (·.x)) x st=8∧applyW s (l.map (·.x)) x st=noW):=λh h2=>⟨by unfold applyE;rw[if_pos h,if_neg (by simp[h2])],by unfold applyW;rw[if_neg (by rw[hr,h,h2];simp)]⟩
 rw[hr] at hp
 simp only[hr] at hv3
 clear hr
 generalize stepB2 s (l.map (·.x)) st=sb at *
 generalize validB s (l.map (·.x)) x=vb at *
 generalize readyK x st=rk at *
 generalize applyE s (l.map (·.x)) x st=E at *
 generalize applyW s (l.map (·.x)) x st=W at *
 (refine callsV_of Tryz.func38 rfl KR KR ?_;rw[Tryz.results38])
 cases sb
 ·obtain⟨rfl,rfl⟩:=(hn1 rfl).out
  clear hv2 hv3 hp hn1 hn2
  (repeat' first|(with_reducible first|exact⟨⟩|(refine gB ?_;intros)|refine gT ?_ ?_)|refine gs ?_|((with_reducible refine at_f 70 ?_);refine ret_k (hv1 _ FR FR) λ_ _ _=>?_)|refine sxRef190 ?_)
  exact⟨_,rfl,OwnW.none _ _⟩
 cases vb
 ·obtain⟨rfl,rfl⟩:=(hn1 rfl).out
  clear hv3 hp hn1 hn2
  (repeat' first|(with_reducible first|exact⟨⟩|(refine gB ?_;intros)|refine gT ?_ ?_)|refine gs ?_|((with_reducible refine at_f 70 ?_);refine ret_k (hv1 _ FR FR) λ_ _ _=>?_)|((with_reducible refine at_f 45 ?_);refine ret_k (hv2 _ FR FR) λ_ _ _=>?_)|refine sxRef190 ?_)
  exact⟨_,rfl,OwnW.none _ _⟩
 cases rk
 ·obtain⟨rfl,rfl⟩:=(hn2 rfl rfl).out
  clear hp hn1 hn2
  (repeat' first|(with_reducible first|exact⟨⟩|(refine gB ?_;intros)|refine gT ?_ ?_)|refine gs ?_|((with_reducible refine at_f 70 ?_);refine ret_k (hv1 _ FR FR) λ_ _ _=>?_)|((with_reducible refine at_f 45 ?_);refine ret_k (hv2 _ FR FR) λ_ _ _=>?_)|((with_reducible refine at_f 71 ?_);refine ret_k (hv3 _ FR FR) λ_ _ _=>?_)|refine sxRef190 ?_)
  exact⟨_,rfl,OwnW.none _ _⟩
 have hq:=hp rfl
 clear hp hn1 hn2
 obtain⟨kd,ho,sv,vr⟩:=st
 obtain⟨k,rfl⟩:∃k:Nat,ho=k:=⟨ho.toNat,by have:=hq.out.1.host;simp only at this;omega⟩
 have hlt:k<x.hosts.length:=by have:=hq.out.1.host;simp only at this;omega
 have hat:Hid (hostAt x k=x.hosts[k]):=by show _=_;simp[hostAt,hlt]
 have hlen:Hid (x.hosts.length≤1000000∧x.replicas.length≤1000000):=hq.out.2.2.1
 have hkd:Hid (1≤kd∧kd≤7):=hq.out.1.kind
 have hst:Hid (kd=1→startE x ⟨sv,k⟩=0∧W=startW x ⟨sv,k⟩):=hq.out.2.2.2.1
 have hsp:Hid (kd=2→stopE x ⟨sv,k⟩=0∧W=stopW x ⟨sv,k⟩):=hq.out.2.2.2.2.1
 have hse:Hid (kd≠1→kd≠2→∀h,newState x.hosts[k] ⟨kd,k,sv,vr⟩=h→setE x k=0∧W=setW x k h):=λh1 h2 h e=>by
  have:=hq.out.2.2.2.2.2 h1 h2
  simp only[hat.out] at this
  rw[e] at this
  exact this
 obtain rfl:=hq.out.2.1
 clear hq hat
 (repeat' first|(with_reducible first|exact⟨⟩|(refine gB ?_;intros)|refine gT ?_ ?_)|refine gs ?_|((with_reducible refine at_f 70 ?_);refine ret_k (hv1 _ FR FR) λ_ _ _=>?_)|((with_reducible refine at_f 45 ?_);refine ret_k (hv2 _ FR FR) λ_ _ _=>?_)|((with_reducible refine at_f 71 ?_);refine ret_k (hv3 _ FR FR) λ_ _ _=>?_)|refine sxRef192 ?_)
 ·obtain⟨e1,e2⟩:=hst.out (by assumption)
  replace e1:Hid _:=e1
  replace e2:Hid _:=e2
  clear hst hsp hse hkd hv1 hv2 hv3
  refine call_k (ref13Start (r:=⟨sv,k⟩) (B:=B) FR (hX _ FR) hlen.out.1 hlen.out.2) ?_
  rintro _ w6 n6 s6 ⟨u6,rfl,o6⟩
  rw[e1.out,←e2.out] at *
  obtain⟨h4,r4,rfl,oh4,or4⟩:=o6
  have H4:=oh4.o
  have R4:=or4.o
  clear oh4 or4
  (repeat' first|(with_reducible first|exact⟨⟩|(refine gB ?_;intros)|refine gT ?_ ?_)|refine gs ?_|refine sx ?_)
  exact⟨_,rfl,_,_,rfl,(H4.1 _ FR).more FR,(R4.1 _ FR).more FR⟩
 ·obtain⟨e1,e2⟩:=hsp.out (by assumption)
  replace e1:Hid _:=e1
  replace e2:Hid _:=e2
  clear hst hsp hse hkd hv1 hv2 hv3
  refine call_k (ref13Stop (r:=⟨sv,k⟩) (B:=B) FR (hX _ FR) hlen.out.1 hlen.out.2) ?_
  rintro _ w6 n6 s6 ⟨u6,rfl,o6⟩
  rw[e1.out,←e2.out] at *
  obtain⟨h4,r4,rfl,oh4,or4⟩:=o6
  have H4:=oh4.o
  have R4:=or4.o
  clear oh4 or4
  (repeat' first|(with_reducible first|exact⟨⟩|(refine gB ?_;intros)|refine gT ?_ ?_)|refine gs ?_|refine sx ?_)
  exact⟨_,rfl,_,_,rfl,(H4.1 _ FR).more FR,(R4.1 _ FR).more FR⟩
 ·obtain⟨e1,e2⟩:=hse.out (by omega) (by omega) ⟨1,x.hosts[k].firmware⟩ (by have e:kd=3:=(by assumption);subst e;rfl)
  replace e1:Hid _:=e1
  replace e2:Hid _:=e2
  clear hst hsp hse hkd hv1 hv2 hv3
  refine st_one KR (by simp) rfl λw5 n5 k5 s5=>?_
  simp only[List.set_cons_zero,List.set_cons_succ] at k5
  (repeat' first|(with_reducible first|exact⟨⟩|(refine gB ?_;intros)|refine gT ?_ ?_)|refine gs ?_|refine sxRef193 ?_)
  refine call_k (ref13Set (host:=k) (h:=⟨1,x.hosts[k].firmware⟩) (B:=B) FR (hX _ FR) hlen.out.1 hlen.out.2) ?_
  rintro _ w6 n6 s6 ⟨u6,rfl,o6⟩
  rw[e1.out,←e2.out] at *
  obtain⟨h4,r4,rfl,oh4,or4⟩:=o6
  have H4:=oh4.o
  have R4:=or4.o
  clear oh4 or4
  (repeat' first|(with_reducible first|exact⟨⟩|(refine gB ?_;intros)|refine gT ?_ ?_)|refine gs ?_|refine sx ?_)
  exact⟨_,rfl,_,_,rfl,(H4.1 _ FR).more FR,(R4.1 _ FR).more FR⟩
 ·obtain⟨e1,e2⟩:=hse.out (by omega) (by omega) ⟨2,x.hosts[k].firmware⟩ (by have e:kd=4:=(by assumption);subst e;rfl)
  replace e1:Hid _:=e1
  replace e2:Hid _:=e2
  clear hst hsp hse hkd hv1 hv2 hv3
  refine st_one KR (by simp) rfl λw5 n5 k5 s5=>?_
  simp only[List.set_cons_zero,List.set_cons_succ] at k5
  (repeat' first|(with_reducible first|exact⟨⟩|(refine gB ?_;intros)|refine gT ?_ ?_)|refine gs ?_|refine sxRef193 ?_)
  refine call_k (ref13Set (host:=k) (h:=⟨2,x.hosts[k].firmware⟩) (B:=B) FR (hX _ FR) hlen.out.1 hlen.out.2) ?_
  rintro _ w6 n6 s6 ⟨u6,rfl,o6⟩
  rw[e1.out,←e2.out] at *
  obtain⟨h4,r4,rfl,oh4,or4⟩:=o6
  have H4:=oh4.o
  have R4:=or4.o
  clear oh4 or4
  (repeat' first|(with_reducible first|exact⟨⟩|(refine gB ?_;intros)|refine gT ?_ ?_)|refine gs ?_|refine sx ?_)
  exact⟨_,rfl,_,_,rfl,(H4.1 _ FR).more FR,(R4.1 _ FR).more FR⟩
 ·obtain⟨e1,e2⟩:=hse.out (by omega) (by omega) ⟨3,x.hosts[k].firmware⟩ (by have e:kd=5:=(by assumption);subst e;rfl)
  replace e1:Hid _:=e1
  replace e2:Hid _:=e2
  clear hst hsp hse hkd hv1 hv2 hv3
  refine st_one KR (by simp) rfl λw5 n5 k5 s5=>?_
  simp only[List.set_cons_zero,List.set_cons_succ] at k5
  (repeat' first|(with_reducible first|exact⟨⟩|(refine gB ?_;intros)|refine gT ?_ ?_)|refine gs ?_|refine sxRef193 ?_)
  refine call_k (ref13Set (host:=k) (h:=⟨3,x.hosts[k].firmware⟩) (B:=B) FR (hX _ FR) hlen.out.1 hlen.out.2) ?_
  rintro _ w6 n6 s6 ⟨u6,rfl,o6⟩
  rw[e1.out,←e2.out] at *
  obtain⟨h4,r4,rfl,oh4,or4⟩:=o6
  have H4:=oh4.o
  have R4:=or4.o
  clear oh4 or4
  (repeat' first|(with_reducible first|exact⟨⟩|(refine gB ?_;intros)|refine gT ?_ ?_)|refine gs ?_|refine sx ?_)
  exact⟨_,rfl,_,_,rfl,(H4.1 _ FR).more FR,(R4.1 _ FR).more FR⟩
 ·obtain⟨e1,e2⟩:=hse.out (by omega) (by omega) ⟨0,x.hosts[k].firmware⟩ (by have e:kd=6:=(by assumption);subst e;rfl)
  replace e1:Hid _:=e1
  replace e2:Hid _:=e2
  clear hst hsp hse hkd hv1 hv2 hv3
  refine st_one KR (by simp) rfl λw5 n5 k5 s5=>?_
  simp only[List.set_cons_zero,List.set_cons_succ] at k5
  (repeat' first|(with_reducible first|exact⟨⟩|(refine gB ?_;intros)|refine gT ?_ ?_)|refine gs ?_|refine sxRef193 ?_)
  refine call_k (ref13Set (host:=k) (h:=⟨0,x.hosts[k].firmware⟩) (B:=B) FR (hX _ FR) hlen.out.1 hlen.out.2) ?_
  rintro _ w6 n6 s6 ⟨u6,rfl,o6⟩
  rw[e1.out,←e2.out] at *
  obtain⟨h4,r4,rfl,oh4,or4⟩:=o6
  have H4:=oh4.o
  have R4:=or4.o
  clear oh4 or4
  (repeat' first|(with_reducible first|exact⟨⟩|(refine gB ?_;intros)|refine gT ?_ ?_)|refine gs ?_|refine sx ?_)
  exact⟨_,rfl,_,_,rfl,(H4.1 _ FR).more FR,(R4.1 _ FR).more FR⟩
 ·obtain⟨e1,e2⟩:=hse.out (by omega) (by omega) ⟨x.hosts[k].phase,vr⟩ (by have e:kd=7:=(by assumption);subst e;rfl)
  replace e1:Hid _:=e1
  replace e2:Hid _:=e2
  clear hst hsp hse hkd hv1 hv2 hv3
  refine st_one KR (by simp) rfl λw5 n5 k5 s5=>?_
  simp only[List.set_cons_zero,List.set_cons_succ] at k5
  (repeat' first|(with_reducible first|exact⟨⟩|(refine gB ?_;intros)|refine gT ?_ ?_)|refine gs ?_|refine sxRef193 ?_)
  refine call_k (ref13Set (host:=k) (h:=⟨x.hosts[k].phase,vr⟩) (B:=B) FR (hX _ FR) hlen.out.1 hlen.out.2) ?_
  rintro _ w6 n6 s6 ⟨u6,rfl,o6⟩
  rw[e1.out,←e2.out] at *
  obtain⟨h4,r4,rfl,oh4,or4⟩:=o6
  have H4:=oh4.o
  have R4:=or4.o
  clear oh4 or4
  (repeat' first|(with_reducible first|exact⟨⟩|(refine gB ?_;intros)|refine gT ?_ ?_)|refine gs ?_|refine sx ?_)
  exact⟨_,rfl,_,_,rfl,(H4.1 _ FR).more FR,(R4.1 _ FR).more FR⟩
 ·exfalso
  have:=hkd.out
  omega
end
section
variable{w:World}{B:Nat}{u:SiteVs}{s:SiteD}{wv hv rv:Value}{l:List SrvV}{x:WorldD}{st:StepD}{wl:List ServiceD}
end
end Go.Proofs.YtphciegaokdolaaGreatDoor
