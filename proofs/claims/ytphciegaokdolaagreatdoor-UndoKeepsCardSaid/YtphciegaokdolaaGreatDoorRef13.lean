/- The document's answer, layer 13: what only looks. -/
import Derived.Test.YtphciegaokdolaaGreatDoorRef12
namespace Go.Proofs.YtphciegaokdolaaGreatDoor
set_option linter.unusedSimpArgs false
set_option linter.unusedVariables false
open Go Go.RowKit
set_option maxRecDepth 100000
set_option linter.unusedSectionVars false
set_option maxHeartbeats 1000000
theorem sxRef130{p q:Prop}(hq:q)(h:p=q:=by first|(simp(maxDischargeDepth:=3) only[↓X,↓Y,↓Q,S1,↓reduceIte,Nat.reduceEqDiff,Nat.reduceAdd,Int.reduceLT,Int.reduceLE,Int.reduceNeg,Int.reduceBEq,Int.reduceBNe,Int.reduceEq,Nat.reduceLeDiff,Nat.reduceMul,Nat.reduceLT, *,replicaV];try exact rfl)|(simp(singlePass:=true) (maxDischargeDepth:=99) only[*,S2,Nat.reduceLT,replicaV];try exact rfl)):p:=h▸hq
theorem sxRef132{p q:Prop}(hq:q)(h:p=q:=by first|(simp(maxDischargeDepth:=3) only[↓X,↓Y,↓Q,S1,↓reduceIte,Nat.reduceEqDiff,Nat.reduceAdd,Int.reduceLT,Int.reduceLE,Int.reduceNeg,Int.reduceBEq,Int.reduceBNe,Int.reduceEq,Nat.reduceLeDiff,Nat.reduceMul,Nat.reduceLT, *,srvV,srvC];try exact rfl)|(simp(singlePass:=true) (maxDischargeDepth:=99) only[*,S2,Nat.reduceLT,srvV,srvC];try exact rfl)):p:=h▸hq
theorem sxRef133{p q:Prop}(hq:q)(h:p=q:=by first|(simp(maxDischargeDepth:=3) only[↓X,↓Y,↓Q,S1,↓reduceIte,Nat.reduceEqDiff,Nat.reduceAdd,Int.reduceLT,Int.reduceLE,Int.reduceNeg,Int.reduceBEq,Int.reduceBNe,Int.reduceEq,Nat.reduceLeDiff,Nat.reduceMul,Nat.reduceLT, *,List.take_zero,List.all_nil,List.any_nil];try exact rfl)|(simp(singlePass:=true) (maxDischargeDepth:=99) only[*,S2,Nat.reduceLT,List.take_zero,List.all_nil,List.any_nil];try exact rfl)):p:=h▸hq
theorem sxRef134{p q:Prop}(hq:q)(h:p=q:=by first|(simp(maxDischargeDepth:=3) only[↓X,↓Y,↓Q,S1,↓reduceIte,Nat.reduceEqDiff,Nat.reduceAdd,Int.reduceLT,Int.reduceLE,Int.reduceNeg,Int.reduceBEq,Int.reduceBNe,Int.reduceEq,Nat.reduceLeDiff,Nat.reduceMul,Nat.reduceLT, *,stateV];try exact rfl)|(simp(singlePass:=true) (maxDischargeDepth:=99) only[*,S2,Nat.reduceLT,stateV];try exact rfl)):p:=h▸hq
theorem sxRef135{p q:Prop}(hq:q)(h:p=q:=by first|(simp(maxDischargeDepth:=3) only[↓X,↓Y,↓Q,S1,↓reduceIte,Nat.reduceEqDiff,Nat.reduceAdd,Int.reduceLT,Int.reduceLE,Int.reduceNeg,Int.reduceBEq,Int.reduceBNe,Int.reduceEq,Nat.reduceLeDiff,Nat.reduceMul,Nat.reduceLT, *,replicaV,siteC];try exact rfl)|(simp(singlePass:=true) (maxDischargeDepth:=99) only[*,S2,Nat.reduceLT,replicaV,siteC];try exact rfl)):p:=h▸hq
theorem sxRef136{p q:Prop}(hq:q)(h:p=q:=by first|(simp(maxDischargeDepth:=3) only[↓X,↓Y,↓Q,S1,↓reduceIte,Nat.reduceEqDiff,Nat.reduceAdd,Int.reduceLT,Int.reduceLE,Int.reduceNeg,Int.reduceBEq,Int.reduceBNe,Int.reduceEq,Nat.reduceLeDiff,Nat.reduceMul,Nat.reduceLT, *,siteC];try exact rfl)|(simp(singlePass:=true) (maxDischargeDepth:=99) only[*,S2,Nat.reduceLT,siteC];try exact rfl)):p:=h▸hq
theorem sxRef137{p q:Prop}(hq:q)(h:p=q:=by first|(simp(maxDischargeDepth:=3) only[↓X,↓Y,↓Q,S1,↓reduceIte,Nat.reduceEqDiff,Nat.reduceAdd,Int.reduceLT,Int.reduceLE,Int.reduceNeg,Int.reduceBEq,Int.reduceBNe,Int.reduceEq,Nat.reduceLeDiff,Nat.reduceMul,Nat.reduceLT, *,replicaV,srvV,srvC];try exact rfl)|(simp(singlePass:=true) (maxDischargeDepth:=99) only[*,S2,Nat.reduceLT,replicaV,srvV,srvC];try exact rfl)):p:=h▸hq
theorem ref13Less{w:World}{a b:ReplicaD}:Ret Tryz.prog 129 #[replicaV a,replicaV b] w (.bool (decide (ordI a b<0))):=by
 have⟨hn,hx⟩:=bg0 w
 (refine callsV_of Tryz.func129 rfl KR KR ?_;rw[Tryz.results129])
 (repeat' first|(with_reducible first|exact⟨⟩|(refine gB ?_;intros)|refine gT ?_ ?_)|refine gs ?_|refine sxRef130 ?_)
 all_goals (simp only[ordI,cmpI];(repeat' split)<;>simp_all<;>omega)
theorem ref13Ascending{w:World}{v:Value}{l:List ReplicaD}{B:Nat}(hB:B≤w.heap.size)(hv:Sl w B (some 2) 2 v (l.map replicaV)):Ret Tryz.prog 85 #[v] w (.bool (sortedB l)):=by
 have⟨hn,hx⟩:=bg0 w
 have hk:=hv.k hB
 have hmax:=hv.max_
 (refine callsV_of Tryz.func85 rfl KR KR ?_;rw[Tryz.results85])
 (repeat' first|(with_reducible first|exact⟨⟩|(refine gB ?_;intros)|refine gT ?_ ?_)|refine gs ?_|refine sx ?_)
 refine loop_k l.length (λg0 k g _=>g 3=.int .i64 ((k+1:Nat):Int)∧(g 0=g0 0)∧Hid (∀j (h:j+1<l.length),j<k→ordI l[j] l[j+1]<0)) KR hmax ?_ ?_ ?_
 ·(repeat' first|(with_reducible first|exact⟨⟩|(refine gB ?_;intros)|refine gT ?_ ?_)|refine gs ?_|refine sx ?_)
  exact⟨rfl,λj _ h=>absurd h (by omega)⟩
 ·rintro k m g wk hk hlt _ _ _ hw ⟨hi,hf,hp⟩
  simp(maxDischargeDepth:=3) only[U,↓reduceIte,Nat.reduceEqDiff, *] at hf
  by_cases h1:k+1<l.length
  ·have hw1:IntKind.i64.wrap (((k+1:Nat):Int) - 1)=(k:Int):=by rw[show((k+1:Nat):Int) - 1=(k:Int) by omega,wrap_nat (by omega)]
   have hw2:IntKind.i64.wrap (((k+1:Nat):Int)+1)=((k+1+1:Nat):Int):=by rw[wrap_i64_id]<;>omega
   (repeat' first|(with_reducible first|exact⟨⟩|(refine gB ?_;intros)|refine gT ?_ ?_)|refine gs ?_|((with_reducible refine at_q 129 ?_);refine qret_k (λ_ _ _=>ref13Less) ?_)|refine sx ?_)
   ·rename_i h
    refine next_k hk hlt ?_ FR
    (repeat' first|(with_reducible first|exact⟨⟩|(refine gB ?_;intros)|refine gT ?_ ?_)|refine gs ?_|refine sx ?_)
    refine λj hj hjk=>?_
    rcases Nat.lt_or_eq_of_le (Nat.le_of_lt_succ hjk) with h3|rfl
    ·exact hp.out j hj h3
    ·simpa using h
   ·rename_i h
    have:sortedB l=false:=by
     rw[←Bool.not_eq_true,sortedB_iff]
     exact λh2=>absurd (h2 k h1) (by simpa using h)
    rw[this]
  ·(repeat' first|(with_reducible first|exact⟨⟩|(refine gB ?_;intros)|refine gT ?_ ?_)|refine gs ?_|refine sx ?_)
   have:sortedB l=true:=sortedB_iff.2 λi hi=>hp.out i hi (by omega)
   rw[this]
 ·rintro g wk _ _ _ ⟨hi,hf,hp⟩
  simp(maxDischargeDepth:=3) only[U,↓reduceIte,Nat.reduceEqDiff, *] at hf
  have hl:¬l.length+1<l.length:=by omega
  (repeat' first|(with_reducible first|exact⟨⟩|(refine gB ?_;intros)|refine gT ?_ ?_)|refine gs ?_|refine sx ?_)
  have:sortedB l=true:=sortedB_iff.2 λi hi=>hp.out i hi (by omega)
  rw[this]
def stateB(x:StateD):Bool:=decide (x.phase≤4)&&btw x.firmware 0 1000000
def replB(n m:Int)(r:ReplicaD):Bool:=idx r.service n&&idx r.host m
def validB(s:SiteD)(wl:List ServiceD)(x:WorldD):Bool:=siteB s&&wishB wl&&decide (x.hosts.length=s.hosts.length)&&decide (x.replicas.length≤24)&&sortedB x.replicas&&x.hosts.all stateB&&x.replicas.all (replB wl.length s.hosts.length)
def whereF(svc:Int)(l:List ReplicaD):List Int:=(l.filter λr=>r.service == svc).map (·.host)
def whereL(x:WorldD)(svc:Int):List Int:=whereF svc x.replicas
def coresAt(wl:List ServiceD)(i:Int):Int:=((wl[i.toNat]?).map (·.cores)).getD 0
def usedF(wl:List ServiceD)(host:Int):Int→List ReplicaD→Int
 |acc,[]=>acc
 |acc,r::t=>usedF wl host (if r.host=host∧idx r.service wl.length=true then IntKind.i64.wrap (acc+coresAt wl r.service) else acc) t
def usedI(wl:List ServiceD)(x:WorldD)(host:Int):Int:=usedF wl host 0 x.replicas
theorem asc_cons{n i c a:Int}{r:List Int}:ascB n i c (a::r)=(decide (c<a)&&decide (a<n)&&!(a == i)&&ascB n i a r):=rfl
def srvHead(x:ServiceD):Bool:=btw x.cores 1 1000&&btw x.replicas 0 24&&btw x.least 0 x.replicas&&btw x.firmware 0 1000000&&spreadB x
theorem serviceB_eq(n i:Int)(x:ServiceD):serviceB n i x=(srvHead x&&ascB n i (-1) x.apart&&ascB n i (-1) (x.near.map (·.service))&&x.near.all λk=>btw k.latency 0 1000000):=rfl
section
variable{w:World}{B:Nat}{u:SiteVs}{s:SiteD}{wv hv rv:Value}{l:List SrvV}{x:WorldD}
theorem ref13service(hB:B≤w.heap.size)(hl:WishR w B wv l){q:Nat}(hq:q<l.length):Ret Tryz.prog 141 #[.agg #[wv],natV q] w (.bool (serviceB l.length q l[q].x)):=by
 have⟨hn,hx⟩:=bg0 w
 have hl':=hl.sk hB
 have ha:=hl.a _ (List.getElem_mem hq)
 have hn':=hl.n _ (List.getElem_mem hq)
 have ha':=ha.k hB
 have hn2:=hn'.k hB
 generalize hsrv:l[q]=sv at *
 have hone1:=ha.one
 have hone2:=hn'.one
 (refine callsV_of Tryz.func141 rfl KR KR ?_;rw[Tryz.results141])
 have hfal:srvHead sv.x=false→Value.bool false=Value.bool (serviceB l.length q sv.x):=λh=>by rw[serviceB_eq,h];simp only[Bool.false_and]
 (repeat' first|(with_reducible first|exact⟨⟩|(refine gB ?_;intros)|refine gT ?_ ?_)|refine gs ?_|refine sxRef132 ?_)
 all_goals (try (refine hfal (Bool.eq_false_iff.2 λh=>?_);simp only[srvHead,btw,spreadB,Bool.and_eq_true,decide_eq_true_eq] at h;split at h<;>(try simp only[beq_iff_eq,Bool.and_eq_true,decide_eq_true_eq] at h)<;>omega))
 all_goals
  have hhead:srvHead sv.x=true:=by
   simp only[srvHead,btw,spreadB,Bool.and_eq_true,decide_eq_true_eq]
   refine⟨by omega,?_⟩
   split<;>(try simp only[beq_iff_eq,Bool.and_eq_true,decide_eq_true_eq])<;>omega
  refine loop_k (sv.x.apart.length) (λg0 k g _=>g 7=.int .i64 k∧(g 1=g0 1∧g 2=g0 2∧g 5=g0 5)∧∃c:Int,g 6=.int .i64 c∧Hid (ascB l.length q c (sv.x.apart.drop k)=ascB l.length q (-1) sv.x.apart)) KR (ha.max_) ?_ ?_ ?_
  ·(repeat' first|(with_reducible first|exact⟨⟩|(refine gB ?_;intros)|refine gT ?_ ?_)|refine gs ?_|refine sxRef133 ?_)
   exact⟨-1,rfl,rfl⟩
  ·rintro k m g wk hk hlt _ _ _ hw ⟨hi,hf,hp⟩
   simp(maxDischargeDepth:=3) only[U,↓reduceIte,Nat.reduceEqDiff, *] at hf
   obtain⟨c,h6,hm⟩:=hp
   have hm:=hm.out
   rw[List.drop_eq_getElem_cons hlt,asc_cons] at hm
   have hm:Hid _:=hm
   (repeat' first|(with_reducible first|exact⟨⟩|(refine gB ?_;intros)|refine gT ?_ ?_)|refine gs ?_|refine sx ?_)
   all_goals first
    |(
     have hf9:ascB l.length q (-1) sv.x.apart=false:=by
      rw[←hm.out,Bool.eq_false_iff]
      intro h9
      simp only[Bool.and_eq_true,decide_eq_true_eq,Bool.not_eq_true',beq_eq_false_iff_ne] at h9
      omega
     rw[serviceB_eq,hf9];simp;done)
    |(
     refine next_k hk hlt ?_ FR
     (repeat' first|(with_reducible first|exact⟨⟩|(refine gB ?_;intros)|refine gT ?_ ?_)|refine gs ?_|refine sx ?_)
     refine⟨_,rfl,?_⟩
     show _=_
     rw[←hm.out,decide_eq_true (show c<sv.x.apart[k] by omega),decide_eq_true (show sv.x.apart[k]<(l.length:Int) by omega),show(sv.x.apart[k] == (q:Int))=false by assumption]
     simp)
  ·rintro g wk _ _ _ ⟨hi,hf,hp⟩
   simp(maxDischargeDepth:=3) only[U,↓reduceIte,Nat.reduceEqDiff, *] at hf
   obtain⟨c,h6,hm⟩:=hp
   have hasc1:ascB l.length q (-1) sv.x.apart=true:=by rw[←hm.out,List.drop_length];rfl
   clear hm
   (repeat' first|(with_reducible first|exact⟨⟩|(refine gB ?_;intros)|refine gT ?_ ?_)|refine gs ?_|refine sx ?_)
   refine loop_k (sv.x.near.length) (λg0 k g _=>g 8=.int .i64 k∧(g 1=g0 1∧g 2=g0 2∧g 5=g0 5)∧∃c:Int,g 6=.int .i64 c∧Hid (ascB l.length q c ((sv.x.near.drop k).map (·.service))=ascB l.length q (-1) (sv.x.near.map (·.service)))∧Hid ((sv.x.near.take k).all (λk=>btw k.latency 0 1000000)=true)) KR (hn'.max_) ?_ ?_ ?_
   ·(repeat' first|(with_reducible first|exact⟨⟩|(refine gB ?_;intros)|refine gT ?_ ?_)|refine gs ?_|refine sxRef133 ?_)
    exact⟨-1,rfl,rfl,trivial⟩
   ·rintro k m g wk hk hlt _ _ _ hw ⟨hi,hf,hp⟩
    simp(maxDischargeDepth:=3) only[U,↓reduceIte,Nat.reduceEqDiff, *] at hf
    obtain⟨c,h6,hm,hlat⟩:=hp
    have hm:=hm.out
    rw[List.drop_eq_getElem_cons hlt,List.map_cons,asc_cons] at hm
    have hm:Hid _:=hm
    have hat:=all_take hlt (λk:NearD=>btw k.latency 0 1000000)
    (repeat' first|(with_reducible first|exact⟨⟩|(refine gB ?_;intros)|refine gT ?_ ?_)|refine gs ?_|simp(maxDischargeDepth:=3) only[↓X,↓Y,↓Q,S1,↓reduceIte,Nat.reduceEqDiff,Nat.reduceAdd,Int.reduceLT,Int.reduceLE,Int.reduceNeg,Int.reduceBEq,Int.reduceBNe,Int.reduceEq,Nat.reduceLeDiff,Nat.reduceMul,Nat.reduceLT, *,nearV]|simp(singlePass:=true) (maxDischargeDepth:=99) only[*,S2,Nat.reduceLT,nearV])
    all_goals first
     |(
      have hf9:ascB l.length q (-1) (sv.x.near.map (·.service))=false:=by
       rw[←hm.out,Bool.eq_false_iff]
       intro h9
       simp only[Bool.and_eq_true,decide_eq_true_eq,Bool.not_eq_true',beq_eq_false_iff_ne] at h9
       omega
      rw[serviceB_eq,hf9];simp;done)
     |(
      have hf9:(sv.x.near.all λk=>btw k.latency 0 1000000)=false:=all_at hlt (by
       rw[Bool.eq_false_iff]
       intro h9
       simp only[btw,Bool.and_eq_true,decide_eq_true_eq] at h9
       omega)
      rw[serviceB_eq,hf9];simp;done)
     |(
      refine next_k hk hlt ?_ FR
      (repeat' first|(with_reducible first|exact⟨⟩|(refine gB ?_;intros)|refine gT ?_ ?_)|refine gs ?_|refine sx ?_)
      refine⟨_,rfl,?_,?_⟩
      ·show _=_
       rw[←hm.out,decide_eq_true (show c<sv.x.near[k].service by omega),decide_eq_true (show sv.x.near[k].service<(l.length:Int) by omega),show(sv.x.near[k].service == (q:Int))=false by assumption]
       simp
      ·show _=_
       first|rw[hat,hlat.out]|rw[hlat.out]
       simp only[btw,Bool.true_and,Bool.and_eq_true,decide_eq_true_eq]
       omega)
   ·rintro g wk _ _ _ ⟨hi,hf,hp⟩
    simp(maxDischargeDepth:=3) only[U,↓reduceIte,Nat.reduceEqDiff, *] at hf
    obtain⟨c,h6,hm,hlat⟩:=hp
    have hasc2:ascB l.length q (-1) (sv.x.near.map (·.service))=true:=by rw[←hm.out,List.drop_length];rfl
    have hlat:=hlat.out
    rw[take_all] at hlat
    (repeat' first|(with_reducible first|exact⟨⟩|(refine gB ?_;intros)|refine gT ?_ ?_)|refine gs ?_|refine sx ?_)
    rw[serviceB_eq,hhead,hasc1,hasc2,hlat]
    rfl
end
theorem repl_eq{a b:ReplicaD}:((a.service == b.service)&&(a.host == b.host))=decide (a=b):=by
 cases a;cases b
 rw[Bool.eq_iff_iff];simp
theorem state_eq{a b:StateD}:((a.phase == b.phase)&&(a.firmware == b.firmware))=decide (a=b):=by
 cases a;cases b
 rw[Bool.eq_iff_iff];simp
theorem dec_not{p:Prop}[Decidable p]{w:World}{A B:World→Prop}:forkX (!decide p) w A B=forkP p w B A:=by
 by_cases h:p<;>simp[forkX,forkP,h]
theorem srvsB_get:∀{n:Int} {l:List ServiceD} {i:Nat},srvsB n i l=true↔∀j (h:j<l.length),serviceB n ((i+j:Nat):Int) l[j]=true
 |n,[],i=>by simp[srvsB]
 |n,a::l,i=>by
  rw[srvsB,Bool.and_eq_true,srvsB_get]
  constructor
  ·rintro⟨h1,h2⟩ j hj
   cases j with
   |zero=>exact h1
   |succ j=>have:=h2 j (by simpa using hj);rw[show i+1+j=i+(j+1) by omega] at this;exact this
  ·intro h
   refine⟨h 0 (by simp),λj hj=>?_⟩
   have:=h (j+1) (by simpa using hj)
   rw[show i+(j+1)=i+1+j by omega] at this
   exact this
theorem sumR_take:∀(l:List ServiceD) (k:Nat) (h:k<l.length),sumR (l.take (k+1))=sumR (l.take k)+l[k].replicas
 |[],k,h=>absurd h (by simp)
 |a::l,0,_=>by simp[sumR]
 |a::l,k+1,h=>by
  have:=sumR_take l k (by simpa using h)
  simp only[List.take_succ_cons,sumR,List.getElem_cons_succ,this]
  omega
section
variable{w:World}{B:Nat}{u:SiteVs}{s:SiteD}{wv hv rv:Value}{l:List SrvV}{x:WorldD}
theorem ref13ValidWish(hB:B≤w.heap.size)(hl:WishR w B wv l):Ret Tryz.prog 84 #[.agg #[wv]] w (.bool (wishB (l.map (·.x)))):=by
 have⟨hn,hx⟩:=bg0 w
 have hl':=hl.sk hB
 have hW:=hl'.2.2
 have hlen:(l.map (·.x)).length=l.length:=by simp
 (refine callsV_of Tryz.func84 rfl KR KR ?_;rw[Tryz.results84])
 (repeat' first|(with_reducible first|exact⟨⟩|(refine gB ?_;intros)|refine gT ?_ ?_)|refine gs ?_|refine sx ?_)
 ·have:wishB (l.map (·.x))=false:=by
   simp only[wishB,hlen]
   rw[decide_eq_false (by omega)];simp
  rw[this]
 ·rename_i h8
  refine loop_k l.length (λg0 k g _=>g 4=.int .i64 k∧(g 1=g0 1)∧Hid (∀j (h:j<l.length),j<k→serviceB l.length j l[j].x=true)∧g 3=.int .i64 (sumR ((l.map (·.x)).take k))∧0≤sumR ((l.map (·.x)).take k)∧sumR ((l.map (·.x)).take k)≤24 * k) KR hl.v.max_ ?_ ?_ ?_
  ·(repeat' first|(with_reducible first|exact⟨⟩|(refine gB ?_;intros)|refine gT ?_ ?_)|refine gs ?_|refine sx ?_)
   exact⟨λj _ h=>absurd h (by omega),rfl,Int.le_refl _,Int.le_refl _⟩
  ·rintro k m g wk hk hlt _ _ _ hw ⟨hi,hf,hp,h3,h4,h5⟩
   simp(maxDischargeDepth:=3) only[U,↓reduceIte,Nat.reduceEqDiff, *] at hf
   have hst:=sumR_take (l.map (·.x)) k (by simpa using hlt)
   simp only[List.getElem_map] at hst
   have hcc:∃c,serviceB l.length k l[k].x=c:=⟨_,rfl⟩
   obtain⟨c,hc0⟩:=hcc
   have hc:Hid (serviceB l.length k l[k].x=c):=hc0
   clear hc0
   have hsv:=λw' (h:Bl B w w') (hB':B≤w'.heap.size)=>ref13service hB' (hW w' h) hlt
   rw[hc.out] at hsv
   generalize sumR ((l.map (·.x)).take k)=sm at *
   have hfin:c=false→wishB (l.map (·.x))=false:=by
    intro h
    rw[h] at hc
    have:srvsB l.length 0 (l.map (·.x))=false:=by
     rw[Bool.eq_false_iff,Ne,srvsB_get]
     intro h2
     have:=h2 k (by simpa using hlt)
     simp only[List.getElem_map,Nat.zero_add] at this
     rw[hc.out] at this
     cases this
    simp only[wishB,hlen,this,Bool.and_false,Bool.false_and]
   have hgood:c=true→0≤l[k].x.replicas∧l[k].x.replicas≤24:=by
    intro h
    have h2:=hc.out
    rw[h,serviceB_eq] at h2
    simp only[Bool.and_eq_true,srvHead,btw,decide_eq_true_eq] at h2
    omega
   cases c
   ·clear hgood
    (repeat' first|(with_reducible first|exact⟨⟩|(refine gB ?_;intros)|refine gT ?_ ?_)|refine gs ?_|((with_reducible refine at_f 141 ?_);refine ret_k (hsv _ FR FR) λ_ _ _=>?_)|refine sx ?_)
    all_goals rw[hfin rfl]
   ·have hr:=hgood rfl
    clear hfin hgood
    have hw3:IntKind.i64.wrap (sm+l[k].x.replicas)=sm+l[k].x.replicas:=by rw[wrap_i64_id]<;>omega
    (repeat' first|(with_reducible first|exact⟨⟩|(refine gB ?_;intros)|refine gT ?_ ?_)|refine gs ?_|((with_reducible refine at_f 141 ?_);refine ret_k (hsv _ FR FR) λ_ _ _=>?_)|refine sxRef132 ?_)
    refine next_k hk hlt ?_ FR
    (repeat' first|(with_reducible first|exact⟨⟩|(refine gB ?_;intros)|refine gT ?_ ?_)|refine gs ?_|simp(maxDischargeDepth:=3) only[↓X,↓Y,↓Q,S1,↓reduceIte,Nat.reduceEqDiff,Nat.reduceAdd,Int.reduceLT,Int.reduceLE,Int.reduceNeg,Int.reduceBEq,Int.reduceBNe,Int.reduceEq,Nat.reduceLeDiff,Nat.reduceMul,Nat.reduceLT, *,hst]|simp(singlePass:=true) (maxDischargeDepth:=99) only[*,S2,Nat.reduceLT,hst])
    refine⟨λj hj hjk=>?_,by omega,by omega⟩
    rcases Nat.lt_or_eq_of_le (Nat.le_of_lt_succ hjk) with h1|rfl
    ·exact hp.out j hj h1
    ·exact hc.out
  ·rintro g wk _ _ _ ⟨hi,hf,hp,h3,h4,h5⟩
   simp(maxDischargeDepth:=3) only[U,↓reduceIte,Nat.reduceEqDiff, *] at hf
   have ht:(l.map (·.x)).take l.length=l.map (·.x):=by rw[←hlen];exact take_all _
   rw[ht] at h3
   (repeat' first|(with_reducible first|exact⟨⟩|(refine gB ?_;intros)|refine gT ?_ ?_)|refine gs ?_|refine sx ?_)
   have hs:srvsB l.length 0 (l.map (·.x))=true:=srvsB_get.2 λj hj=>by
    have:=hp.out j (by simpa using hj) (by simpa using hj)
    simpa using this
   simp only[wishB,hlen,hs,Bool.and_true]
   rw[decide_eq_true (show(l.length:Int)≤8 by omega),Bool.true_and]
theorem slicesIndexReplica{v:Value}{l:List ReplicaD}{r:ReplicaD}(hB:B≤w.heap.size)(hv:Sl w B (some 2) 2 v (l.map replicaV)):Ret Tryz.prog 213 #[v,replicaV r] w (intV (fidx (λa=>decide (a=r)) l)):=by
 have⟨hn,hx⟩:=bg0 w
 have hv':=hv.k hB
 (refine callsV_of Tryz.func213 rfl KR KR ?_;rw[Tryz.results213])
 (repeat' first|(with_reducible first|exact⟨⟩|(refine gB ?_;intros)|refine gT ?_ ?_)|refine gs ?_|refine sxRef130 ?_)
 refine loop_k (l.length) (λg0 k g _=>g 8=.int .i64 k∧(g 0=g0 0∧g 3=g0 3∧g 7=g0 7)∧Hid (∀j (h:j<l.length),j<k→¬l[j]=r)) KR (hv.max_) ?_ ?_ ?_
 ·(repeat' first|(with_reducible first|exact⟨⟩|(refine gB ?_;intros)|refine gT ?_ ?_)|refine gs ?_|refine sxRef133 ?_)
  exact λj _ h=>absurd h (by omega)
 ·rintro k m g wk hk hlt _ _ _ hw ⟨hi,hf,hp⟩
  simp(maxDischargeDepth:=3) only[U,↓reduceIte,Nat.reduceEqDiff, *] at hf
  (repeat' first|(with_reducible first|exact⟨⟩|(refine gB ?_;intros)|refine gT ?_ ?_)|refine gs ?_|simp(maxDischargeDepth:=3) only[↓X,↓Y,↓Q,S1,↓reduceIte,Nat.reduceEqDiff,Nat.reduceAdd,Int.reduceLT,Int.reduceLE,Int.reduceNeg,Int.reduceBEq,Int.reduceBNe,Int.reduceEq,Nat.reduceLeDiff,Nat.reduceMul,Nat.reduceLT, *,replicaV,repl_eq]|simp(singlePass:=true) (maxDischargeDepth:=99) only[*,S2,Nat.reduceLT,replicaV,repl_eq])
  ·rename_i h
   rw[fidx_found hlt (by simp[h]) (λj hj hjk=>by simpa [h] using hp.out j hj hjk)]
  ·rename_i h
   refine next_k hk hlt ?_ FR
   (repeat' first|(with_reducible first|exact⟨⟩|(refine gB ?_;intros)|refine gT ?_ ?_)|refine gs ?_|refine sx ?_)
   intro j hj hjk
   rcases Nat.lt_or_eq_of_le (Nat.le_of_lt_succ hjk) with h1|rfl
   ·exact hp.out j hj h1
   ·exact λe=>h e.symm
 ·rintro g wk _ _ _ ⟨hi,hf,hp⟩
  simp(maxDischargeDepth:=3) only[U,↓reduceIte,Nat.reduceEqDiff, *] at hf
  (repeat' first|(with_reducible first|exact⟨⟩|(refine gB ?_;intros)|refine gT ?_ ?_)|refine gs ?_|refine sx ?_)
  rw[fidx_none (λj hj=>by simp[hp.out j hj hj])]
def hasB(l:List ReplicaD)(r:ReplicaD):Bool:=l.any λa=>decide (a=r)
theorem slicesContainsReplica{v:Value}{l:List ReplicaD}{r:ReplicaD}(hB:B≤w.heap.size)(hv:Sl w B (some 2) 2 v (l.map replicaV)):Ret Tryz.prog 186 #[v,replicaV r] w (.bool (hasB l r)):=by
 have⟨hn,hx⟩:=bg0 w
 have hv':=hv.k hB
 (refine callsV_of Tryz.func186 rfl KR KR ?_;rw[Tryz.results186])
 (repeat' first|(with_reducible first|exact⟨⟩|(refine gB ?_;intros)|refine gT ?_ ?_)|refine gs ?_|((with_reducible refine at_f 213 ?_);refine ret_k (slicesIndexReplica (B:=B) (l:=l) (r:=r) FR FR) λ_ _ _=>?_)|refine sxRef130 ?_)
 rw[fidx_any];rfl
theorem worldHas{r:ReplicaD}(hB:B≤w.heap.size)(hx0:WorldR w B hv rv x):Ret Tryz.prog 131 #[.agg #[hv,rv],replicaV r] w (.bool (hasB x.replicas r)):=by
 have⟨hn,hx⟩:=bg0 w
 have hx':=hx0.sk hB
 (refine callsV_of Tryz.func131 rfl KR KR ?_;rw[Tryz.results131])
 (repeat' first|(with_reducible first|exact⟨⟩|(refine gB ?_;intros)|refine gT ?_ ?_)|refine gs ?_|((with_reducible refine at_f 186 ?_);refine ret_k (slicesContainsReplica (B:=B) (l:=x.replicas) (r:=r) FR FR) λ_ _ _=>?_)|refine sxRef130 ?_)
theorem ref13Has{r:ReplicaD}(hB:B≤w.heap.size)(hx0:WorldR w B hv rv x):Ret Tryz.prog 128 #[.agg #[hv,rv],replicaV r] w (.bool (hasB x.replicas r)):=by
 have⟨hn,hx⟩:=bg0 w
 have hx':=hx0.sk hB
 (refine callsV_of Tryz.func128 rfl KR KR ?_;rw[Tryz.results128])
 (repeat' first|(with_reducible first|exact⟨⟩|(refine gB ?_;intros)|refine gT ?_ ?_)|refine gs ?_|refine sxRef130 ?_)
 refine loop_k (x.replicas.length) (λg0 k g _=>g 5=.int .i64 k∧(g 2=g0 2∧g 3=g0 3)∧Hid (∀j (h:j<x.replicas.length),j<k→¬x.replicas[j]=r)) KR (hx0.r.max_) ?_ ?_ ?_
 ·(repeat' first|(with_reducible first|exact⟨⟩|(refine gB ?_;intros)|refine gT ?_ ?_)|refine gs ?_|refine sxRef133 ?_)
  exact λj _ h=>absurd h (by omega)
 ·rintro k m g wk hk hlt _ _ _ hw ⟨hi,hf,hp⟩
  simp(maxDischargeDepth:=3) only[U,↓reduceIte,Nat.reduceEqDiff, *] at hf
  (repeat' first|(with_reducible first|exact⟨⟩|(refine gB ?_;intros)|refine gT ?_ ?_)|refine gs ?_|simp(maxDischargeDepth:=3) only[↓X,↓Y,↓Q,S1,↓reduceIte,Nat.reduceEqDiff,Nat.reduceAdd,Int.reduceLT,Int.reduceLE,Int.reduceNeg,Int.reduceBEq,Int.reduceBNe,Int.reduceEq,Nat.reduceLeDiff,Nat.reduceMul,Nat.reduceLT, *,replicaV,repl_eq]|simp(singlePass:=true) (maxDischargeDepth:=99) only[*,S2,Nat.reduceLT,replicaV,repl_eq])
  ·rename_i h
   have:hasB x.replicas r=true:=any_at hlt (by simp[h])
   rw[this]
  ·rename_i h
   refine next_k hk hlt ?_ FR
   (repeat' first|(with_reducible first|exact⟨⟩|(refine gB ?_;intros)|refine gT ?_ ?_)|refine gs ?_|refine sx ?_)
   intro j hj hjk
   rcases Nat.lt_or_eq_of_le (Nat.le_of_lt_succ hjk) with h1|rfl
   ·exact hp.out j hj h1
   ·exact h
 ·rintro g wk _ _ _ ⟨hi,hf,hp⟩
  simp(maxDischargeDepth:=3) only[U,↓reduceIte,Nat.reduceEqDiff, *] at hf
  (repeat' first|(with_reducible first|exact⟨⟩|(refine gB ?_;intros)|refine gT ?_ ?_)|refine gs ?_|refine sx ?_)
  have:hasB x.replicas r=false:=by
   rw[hasB,List.any_eq_false]
   intro a ha
   obtain⟨j,hj,rfl⟩:=List.getElem_of_mem ha
   simp[hp.out j hj hj]
  rw[this]
theorem worldValid1{h:StateD}:Ret Tryz.prog 105 #[stateV h] w (.bool (!stateB h)):=by
 have⟨hn,hx⟩:=bg0 w
 (refine callsV_of Tryz.func105 rfl KR KR ?_;rw[Tryz.results105])
 (repeat' first|(with_reducible first|exact⟨⟩|(refine gB ?_;intros)|refine gT ?_ ?_)|refine gs ?_|((with_reducible refine at_f 106 ?_);refine ret_k (worldBetween) λ_ _ _=>?_)|refine sxRef134 ?_)
 all_goals (simp_all [stateB])
theorem worldValid2{b4 b3:Nat}{r:ReplicaD}(hB:B≤w.heap.size)(hs:SiteR w B u s)(hl:WishR w B wv l)(hb3:Blk w b3 29 (siteC u s))(hb4:Blk w b4 32 [wv]) :
 Ret Tryz.prog 107 #[replicaV r,.pointer (some ⟨b4,0,none⟩),.pointer (some ⟨b3,0,none⟩)] w (.bool (!replB l.length s.hosts.length r)):=by
 have⟨hn,hx⟩:=bg0 w
 have hs':=hs.sk hB
 have hl':=hl.sk hB
 have k3:=hb3.bk
 have k4:=hb4.bk
 have w1:=wrap_pred hl.v.max_
 have w2:=wrap_pred hs.h.max_
 (refine callsV_of Tryz.func107 rfl KR KR ?_;rw[Tryz.results107])
 (repeat' first|(with_reducible first|exact⟨⟩|(refine gB ?_;intros)|refine gT ?_ ?_)|refine gs ?_|((with_reducible refine at_f 106 ?_);refine ret_k (worldBetween) λ_ _ _=>?_)|refine sxRef135 ?_)
 all_goals (simp_all [replB,btw_idx])
theorem worldValid(hB:B≤w.heap.size)(hs:SiteR w B u s)(hl:WishR w B wv l)(hx0:WorldR w B hv rv x):Ret Tryz.prog 53 #[.agg (siteC u s).toArray,.agg #[wv],.agg #[hv,rv]] w (.bool (validB s (l.map (·.x)) x)):=by
 have⟨hn,hx⟩:=bg0 w
 have hs':=hs.sk hB
 have hl':=hl.sk hB
 have hx':=hx0.sk hB
 have hS:=hs'.2.2.2.2.2.2
 have hW:=hl'.2.2
 have hX:=hx'.2.2.2.2
 (refine callsV_of Tryz.func53 rfl KR KR ?_;rw[Tryz.results53])
 (repeat' first|(with_reducible first|exact⟨⟩|(refine gB ?_;intros)|refine gT ?_ ?_)|refine gs ?_|((with_reducible refine at_f 102 ?_);refine ret_k (siteValid (B:=B) FR (hS _ FR)) λ_ _ _=>?_)|((with_reducible refine at_f 103 ?_);refine ret_k (worldValidWish (B:=B) FR (hW _ FR)) λ_ _ _=>?_)|((with_reducible refine at_f 104 ?_);refine ret_k (worldSorted (B:=B) (l:=x.replicas) FR FR) λ_ _ _=>?_)|refine sxRef136 ?_)
 case refine_1.refine_1.refine_1.refine_2.refine_1=>
  have hcal1:callable Tryz.prog 105=true:=by kernel_rfl
  have hcal2:callable Tryz.prog 107=true:=by kernel_rfl
  refine ret_k (containsNot_HostState (caps:=[]) (q:=stateB) (B:=B) (l:=x.hosts) FR FR hcal1 λh _ w' _=>worldValid1) λw4 n4 s4=>?_
  have h24:x.replicas.length≤24:=by omega
  (repeat' first|(with_reducible first|exact⟨⟩|(refine gB ?_;intros)|refine gT ?_ ?_)|refine gs ?_|refine sx ?_)
  ·refine ret_k (containsNot_Replica (caps:=[_,_]) (enc:=replicaV) (q:=replB l.length s.hosts.length) (B:=B) (l:=x.replicas) FR FR hcal2 λr _ w' hx9=>by
    have s9:=hx9.st
    exact worldValid2 (B:=B) FR (hS _ FR) (hW _ FR) (by((try simp only[siteC,List.map_cons,List.map_nil,natV,intV]);simp(singlePass:=true) (maxDischargeDepth:=99) only[*,Nat.le_refl,not_false_eq_true,and_self,natV,intV,List.map_cons,List.map_nil,List.length_cons,List.length_nil,Nat.reduceAdd,Nat.reduceLeDiff])) FR) λw5 n5 s5=>?_
   (repeat' first|(with_reducible first|exact⟨⟩|(refine gB ?_;intros)|refine gT ?_ ?_)|refine gs ?_|refine sx ?_)
   simp only[validB, *,List.length_map,decide_true,Bool.true_and,Bool.not_not]
  ·simp only[validB, *,Bool.and_false,Bool.false_and]
 ·have h24:¬x.replicas.length≤24:=by omega
  simp only[validB,decide_eq_false h24,Bool.and_false,Bool.false_and]
 all_goals (simp only[validB, *,decide_false,Bool.and_false,Bool.false_and])
theorem ref13Valid(hB:B≤w.heap.size)(hs:SiteR w B u s)(hl:WishR w B wv l)(hx0:WorldR w B hv rv x):Ret Tryz.prog 45 #[.agg (siteC u s).toArray,.agg #[wv],.agg #[hv,rv]] w (.bool (validB s (l.map (·.x)) x)):=by
 have⟨hn,hx⟩:=bg0 w
 have hs':=hs.sk hB
 have hl':=hl.sk hB
 have hx':=hx0.sk hB
 have hS:=hs'.2.2.2.2.2.2
 have hW:=hl'.2.2
 have hX:=hx'.2.2.2.2
 (refine callsV_of Tryz.func45 rfl KR KR ?_;rw[Tryz.results45])
 (repeat' first|(with_reducible first|exact⟨⟩|(refine gB ?_;intros)|refine gT ?_ ?_)|refine gs ?_|((with_reducible refine at_f 83 ?_);refine ret_k (ref12Valid (B:=B) FR (hS _ FR)) λ_ _ _=>?_)|((with_reducible refine at_f 84 ?_);refine ret_k (ref13ValidWish (B:=B) FR (hW _ FR)) λ_ _ _=>?_)|((with_reducible refine at_f 85 ?_);refine ret_k (ref13Ascending (B:=B) (l:=x.replicas) FR FR) λ_ _ _=>?_)|refine sxRef136 ?_)
 case refine_1.refine_1.refine_1.refine_2.refine_1=>
  have h24:x.replicas.length≤24:=by omega
  rename_i e0 _ _ _ _ _
  have hle:Hid (x.hosts.length=s.hosts.length):=e0
  clear e0
  refine loop_k (x.hosts.length) (λg0 k g _=>g 7=.int .i64 k∧(g 3=g0 3∧g 4=g0 4∧g 5=g0 5)∧(x.hosts.take k).all stateB=true) KR (hx0.h.max_) ?_ ?_ ?_
  ·(repeat' first|(with_reducible first|exact⟨⟩|(refine gB ?_;intros)|refine gT ?_ ?_)|refine gs ?_|refine sxRef133 ?_)
  ·rintro k m g wk hk hlt _ _ _ hw ⟨hi,hf,hp⟩
   simp(maxDischargeDepth:=3) only[U,↓reduceIte,Nat.reduceEqDiff, *] at hf
   (repeat' first|(with_reducible first|exact⟨⟩|(refine gB ?_;intros)|refine gT ?_ ?_)|refine gs ?_|refine sxRef134 ?_)
   all_goals first
    |(
     have hq:stateB x.hosts[k]=false:=by
      rw[Bool.eq_false_iff]
      intro h9
      simp only[stateB,btw,Bool.and_eq_true,decide_eq_true_eq] at h9
      omega
     simp only[validB,all_at hlt hq,Bool.and_false,Bool.false_and];done)
    |(
     have hq:stateB x.hosts[k]=true:=by
      simp only[stateB,btw,Bool.and_eq_true,decide_eq_true_eq]
      omega
     refine next_k hk hlt ?_ FR
     (repeat' first|(with_reducible first|exact⟨⟩|(refine gB ?_;intros)|refine gT ?_ ?_)|refine gs ?_|simp(maxDischargeDepth:=3) only[↓X,↓Y,↓Q,S1,↓reduceIte,Nat.reduceEqDiff,Nat.reduceAdd,Int.reduceLT,Int.reduceLE,Int.reduceNeg,Int.reduceBEq,Int.reduceBNe,Int.reduceEq,Nat.reduceLeDiff,Nat.reduceMul,Nat.reduceLT, *,all_take hlt,hp,hq]|simp(singlePass:=true) (maxDischargeDepth:=99) only[*,S2,Nat.reduceLT,all_take hlt,hp,hq]))
  ·rintro g wk _ _ _ ⟨hi,hf,hp⟩
   simp(maxDischargeDepth:=3) only[U,↓reduceIte,Nat.reduceEqDiff, *] at hf
   rw[take_all] at hp
   (repeat' first|(with_reducible first|exact⟨⟩|(refine gB ?_;intros)|refine gT ?_ ?_)|refine gs ?_|refine sx ?_)
   refine loop_k (x.replicas.length) (λg0 k g _=>g 8=.int .i64 k∧(g 3=g0 3∧g 4=g0 4∧g 5=g0 5)∧(x.replicas.take k).all (replB l.length s.hosts.length)=true) KR (hx0.r.max_) ?_ ?_ ?_
   ·(repeat' first|(with_reducible first|exact⟨⟩|(refine gB ?_;intros)|refine gT ?_ ?_)|refine gs ?_|refine sxRef133 ?_)
   ·rintro k m g wk hk hlt _ _ _ hw ⟨hi,hf,hp'⟩
    simp(maxDischargeDepth:=3) only[U,↓reduceIte,Nat.reduceEqDiff, *] at hf
    (repeat' first|(with_reducible first|exact⟨⟩|(refine gB ?_;intros)|refine gT ?_ ?_)|refine gs ?_|refine sxRef135 ?_)
    all_goals first
     |(
      have hq:replB l.length s.hosts.length x.replicas[k]=false:=by
       rw[Bool.eq_false_iff]
       intro h9
       simp only[replB,idx,Bool.and_eq_true,decide_eq_true_eq] at h9
       omega
      simp only[validB,List.length_map,all_at hlt hq,Bool.and_false];done)
     |(
      have hq:replB l.length s.hosts.length x.replicas[k]=true:=by
       simp only[replB,idx,Bool.and_eq_true,decide_eq_true_eq]
       omega
      refine next_k hk hlt ?_ FR
      (repeat' first|(with_reducible first|exact⟨⟩|(refine gB ?_;intros)|refine gT ?_ ?_)|refine gs ?_|simp(maxDischargeDepth:=3) only[↓X,↓Y,↓Q,S1,↓reduceIte,Nat.reduceEqDiff,Nat.reduceAdd,Int.reduceLT,Int.reduceLE,Int.reduceNeg,Int.reduceBEq,Int.reduceBNe,Int.reduceEq,Nat.reduceLeDiff,Nat.reduceMul,Nat.reduceLT, *,all_take hlt,hp',hq]|simp(singlePass:=true) (maxDischargeDepth:=99) only[*,S2,Nat.reduceLT,all_take hlt,hp',hq]))
   ·rintro g wk _ _ _ ⟨hi,hf,hp'⟩
    simp(maxDischargeDepth:=3) only[U,↓reduceIte,Nat.reduceEqDiff, *] at hf
    rw[take_all] at hp'
    (repeat' first|(with_reducible first|exact⟨⟩|(refine gB ?_;intros)|refine gT ?_ ?_)|refine gs ?_|refine sx ?_)
    have e1:=decide_eq_true hle.out
    simp only[validB, *,List.length_map,decide_true,Bool.true_and]
 ·have h24:¬x.replicas.length≤24:=by omega
  simp only[validB,decide_eq_false h24,Bool.and_false,Bool.false_and]
 all_goals (simp only[validB, *,decide_false,Bool.and_false,Bool.false_and])
end
theorem filter_take{α:Type}{l:List α}{k:Nat}(h:k<l.length)(p:α→Bool):(l.take (k+1)).filter p=(l.take k).filter p++if p l[k]=true then[l[k]] else[]:=by
 rw[List.take_succ_eq_append_getElem h,List.filter_append]
 congr 1
 rw[List.filter_cons]
 split<;>simp_all
theorem where_take{l:List ReplicaD}{k:Nat}(h:k<l.length)(svc:Int):whereF svc (l.take (k+1))=whereF svc (l.take k)++if l[k].service=svc then[l[k].host] else[]:=by
 unfold whereF
 rw[filter_take h,List.map_append]
 congr 1
 by_cases e:l[k].service=svc<;>simp[e]
theorem where_len(l:List ReplicaD)(svc:Int):(whereF svc l).length≤l.length:=by
 unfold whereF
 rw[List.length_map]
 exact List.length_filter_le _ _
theorem app_int{w:World}{B b cp:Nat}{s:Value}{l:List Int}(x:Int){k:Value→World→Prop}(hown:Own w B 3 1 s (l.map intC))(hb:Blk w b 3 [.int .i64 x])(hbound:l.length<1000000000000)(hB:B≤w.heap.size)
 (h:∀v' w',Now w'→Sa B w w'→Own w' B 3 1 v' ((l++[x]).map intC)→k v' w'):appX Tryz.prog 43 43 43 s (.slice (some ⟨b,0,none⟩) 1 cp) w k:=
 append_k (e:=3) (sz:=1) (by_:=8) (z:=.int .i64 0) (c:=intC) x KR KR rfl (by decide) (by decide) hown hb rfl (by simp[intC,intV,one_int]) hbound hB h
section
variable{w:World}{B:Nat}{u:SiteVs}{s:SiteD}{wv hv rv:Value}{l:List SrvV}{x:WorldD}
end
theorem usedF_app(wl:List ServiceD)(host:Int):∀(a b:List ReplicaD) (acc:Int),usedF wl host acc (a++b)=usedF wl host (usedF wl host acc a) b
 |[],_,_=>rfl
 |r::a,b,acc=>by rw[List.cons_append,usedF,usedF,usedF_app wl host a b]
theorem used_take{l:List ReplicaD}{k:Nat}(h:k<l.length)(wl:List ServiceD)(host:Int):usedF wl host 0 (l.take (k+1))=if l[k].host=host∧idx l[k].service wl.length=true then IntKind.i64.wrap (usedF wl host 0 (l.take k)+coresAt wl l[k].service) else usedF wl host 0 (l.take k):=by
 rw[List.take_succ_eq_append_getElem h,usedF_app,usedF,usedF]
theorem coresAt_nat(l:List SrvV){j:Nat}(h:j<l.length):coresAt (l.map (·.x)) (j:Int)=l[j].x.cores:=by
 simp[coresAt,h]
section
variable{w:World}{B:Nat}{u:SiteVs}{s:SiteD}{wv hv rv:Value}{l:List SrvV}{x:WorldD}
theorem ref13Where{svc:Int}(hB:B≤w.heap.size)(hx0:WorldR w B hv rv x)(hlen:x.replicas.length<1000000000000):CallsV Tryz.prog 98 #[.agg #[hv,rv],intV svc] w λv w'=>Ext w w'∧Own w' w.heap.size 3 1 v ((whereL x svc).map intC):=by
 have⟨hn,hx⟩:=bg0 w
 have hx':=hx0.sk hB
 (refine callsV_of Tryz.func98 rfl KR KR ?_;rw[Tryz.results98])
 (repeat' first|(with_reducible first|exact⟨⟩|(refine gB ?_;intros)|refine gT ?_ ?_)|refine gs ?_|refine sx ?_)
 refine loop_o x.replicas.length (λw0 g0 k g w'=>g 6=.int .i64 k∧(g 1=g0 1∧g 2=g0 2)∧∃v,g 5=v∧Own w' w0.heap.size 3 1 v ((whereF svc (x.replicas.take k)).map intC)) KR hx0.r.max_ ?_ ?_ ?_
 ·(repeat' first|(with_reducible first|exact⟨⟩|(refine gB ?_;intros)|refine gT ?_ ?_)|refine gs ?_|refine sx ?_)
  exact⟨_,rfl,Own.nil _ _ _ _⟩
 ·rintro k m g wk hk hlt nk sk bk hw ⟨hi,hf,v,hv5,hown⟩
  simp(maxDischargeDepth:=3) only[U,↓reduceIte,Nat.reduceEqDiff, *] at hf
  have ht:=where_take hlt svc
  have hxk:=Ext.refl wk
  have hO:=λw' (h:Ext wk w')=>hown.ext h
  clear hown
  have hle:(whereF svc (x.replicas.take k)).length≤k:=Nat.le_trans (where_len _ _) (by simp;omega)
  (repeat' first|(with_reducible first|exact⟨⟩|(refine gB ?_;intros)|refine gT ?_ ?_)|refine gs ?_|refine sxRef130 ?_)
  ·refine app_int x.replicas[k].host (hO _ FR) FR (by omega) FR λv' w5 n5 s5 hown5=>?_
   (repeat' first|(with_reducible first|exact⟨⟩|(refine gB ?_;intros)|refine gT ?_ ?_)|refine gs ?_|refine sx ?_)
   refine next_k hk hlt ?_ FR
   (repeat' first|(with_reducible first|exact⟨⟩|(refine gB ?_;intros)|refine gT ?_ ?_)|refine gs ?_|refine sx ?_)
   refine⟨_,rfl,?_⟩
   exact hown5
  ·refine next_k hk hlt ?_ FR
   (repeat' first|(with_reducible first|exact⟨⟩|(refine gB ?_;intros)|refine gT ?_ ?_)|refine gs ?_|refine sx ?_)
   refine⟨_,rfl,?_⟩
   exact hO _ FR
 ·rintro g wk nk sk bk ⟨hi,hf,v,hv5,hown⟩
  simp(maxDischargeDepth:=3) only[U,↓reduceIte,Nat.reduceEqDiff, *] at hf
  rw[take_all] at hown
  (repeat' first|(with_reducible first|exact⟨⟩|(refine gB ?_;intros)|refine gT ?_ ?_)|refine gs ?_|refine sx ?_)
  exact hown.more FR
theorem ref13Runs{svc:Int}(hB:B≤w.heap.size)(hx0:WorldR w B hv rv x)(hlen:x.replicas.length<1000000000000):Ret Tryz.prog 93 #[.agg #[hv,rv],intV svc] w (natV (whereL x svc).length):=by
 have⟨hn,hx⟩:=bg0 w
 have hx':=hx0.sk hB
 have hX:=hx'.2.2.2.2
 (refine callsV_of Tryz.func93 rfl KR KR ?_;rw[Tryz.results93])
 (repeat' first|(with_reducible first|exact⟨⟩|(refine gB ?_;intros)|refine gT ?_ ?_)|refine gs ?_|refine sx ?_)
 refine call_k (ref13Where (B:=B) FR (hX _ FR) hlen) ?_
 intro v w1 n1 s1 hown
 have h1:=(hown.sl1 (f:=intV)).k (Nat.le_refl _)
 (repeat' first|(with_reducible first|exact⟨⟩|(refine gB ?_;intros)|refine gT ?_ ?_)|refine gs ?_|refine sx ?_)
theorem ref13Used{host:Int}(hB:B≤w.heap.size)(hl:WishR w B wv l)(hx0:WorldR w B hv rv x):Ret Tryz.prog 92 #[.agg #[wv],.agg #[hv,rv],intV host] w (intV (usedI (l.map (·.x)) x host)):=by
 have⟨hn,hx⟩:=bg0 w
 have hx':=hx0.sk hB
 have hl':=hl.sk hB
 have hlen:(l.map (·.x)).length=l.length:=by simp
 (refine callsV_of Tryz.func92 rfl KR KR ?_;rw[Tryz.results92])
 (repeat' first|(with_reducible first|exact⟨⟩|(refine gB ?_;intros)|refine gT ?_ ?_)|refine gs ?_|refine sx ?_)
 refine loop_k (x.replicas.length) (λg0 k g _=>g 8=.int .i64 k∧(g 2=g0 2∧g 3=g0 3∧g 4=g0 4)∧g 7=intV (usedF (l.map (·.x)) host 0 (x.replicas.take k))) KR (hx0.r.max_) ?_ ?_ ?_
 ·(repeat' first|(with_reducible first|exact⟨⟩|(refine gB ?_;intros)|refine gT ?_ ?_)|refine gs ?_|refine sxRef133 ?_)
  rfl
 ·rintro k m g wk hk hlt _ _ _ hw ⟨hi,hf,hp⟩
  simp(maxDischargeDepth:=3) only[U,↓reduceIte,Nat.reduceEqDiff, *] at hf
  have ht:=used_take hlt (l.map (·.x)) host
  rw[hlen] at ht
  generalize hr:x.replicas[k]=r at *
  obtain⟨sv,h0⟩:=r
  by_cases hb:idx sv l.length=true
  ·have hb2:=hb
   simp only[idx,Bool.and_eq_true,decide_eq_true_eq] at hb2
   obtain⟨j,rfl⟩:∃j:Nat,sv=(j:Int):=⟨sv.toNat,by omega⟩
   have hj:j<l.length:=by omega
   have hca:=coresAt_nat l hj
   (repeat' first|(with_reducible first|exact⟨⟩|(refine gB ?_;intros)|refine gT ?_ ?_)|refine gs ?_|refine sxRef137 ?_)
   all_goals (refine next_k hk hlt ?_ FR;(repeat' first|(with_reducible first|exact⟨⟩|(refine gB ?_;intros)|refine gT ?_ ?_)|refine gs ?_|refine sx ?_))
  ·have hb3:=hb
   simp only[idx,Bool.and_eq_true,decide_eq_true_eq] at hb3
   (repeat' first|(with_reducible first|exact⟨⟩|(refine gB ?_;intros)|refine gT ?_ ?_)|refine gs ?_|refine sxRef137 ?_)
   all_goals first
    |(exfalso;omega)
    |(refine next_k hk hlt ?_ FR;(repeat' first|(with_reducible first|exact⟨⟩|(refine gB ?_;intros)|refine gT ?_ ?_)|refine gs ?_|refine sx ?_))
 ·rintro g wk _ _ _ ⟨hi,hf,hp⟩
  simp(maxDischargeDepth:=3) only[U,↓reduceIte,Nat.reduceEqDiff, *] at hf
  rw[take_all] at hp
  (repeat' first|(with_reducible first|exact⟨⟩|(refine gB ?_;intros)|refine gT ?_ ?_)|refine gs ?_|refine sx ?_)
  rfl
end
end Go.Proofs.YtphciegaokdolaaGreatDoor
