/- The plain laws of layer 13: starting and stopping on sorted lists. -/
import Derived.Test.YtphciegaokdolaaGreatDoorStart13b
namespace Go.Proofs.YtphciegaokdolaaGreatDoor
set_option linter.unusedSimpArgs false
set_option linter.unusedVariables false
open Go Go.RowKit
set_option linter.unusedSectionVars false
theorem ord_irr(a:ReplicaD):¬ordI a a<0:=by
 simp only[ordI,cmpI]
 (repeat' split)<;>omega
theorem ord_tri(a b:ReplicaD):ordI a b<0∨a=b∨ordI b a<0:=by
 by_cases h:a=b
 ·exact .inr (.inl h)
 ·have h2:a.service≠b.service∨a.host≠b.host:=by
   rcases Classical.em (a.service=b.service) with h1|h1
   ·rcases Classical.em (a.host=b.host) with h3|h3
    ·exact absurd (by cases a;cases b;simp_all) h
    ·exact .inr h3
   ·exact .inl h1
  simp only[ordI,cmpI]
  (repeat' split)<;>omega
abbrev Asc(l:List ReplicaD):Prop:=l.Pairwise λa b=>ordI a b<0
theorem asc_iff{l:List ReplicaD}:sortedB l=true↔Asc l:=by
 induction l with
 |nil=>simp[sortedB]
 |cons a l ih=>
  cases l with
  |nil=>simp[sortedB]
  |cons b r=>
   rw[sortedB,Bool.and_eq_true,ih,decide_eq_true_eq]
   constructor
   ·rintro⟨h1,h2⟩
    refine List.pairwise_cons.2 ⟨λc hc=>?_,h2⟩
    rcases List.mem_cons.1 hc with rfl|hc
    ·exact h1
    ·exact ord_trans h1 ((List.pairwise_cons.1 h2).1 c hc)
   ·intro h
    exact⟨(List.pairwise_cons.1 h).1 b (List.mem_cons_self ..),(List.pairwise_cons.1 h).2⟩
theorem asc_ext:∀{l l':List ReplicaD},Asc l→Asc l'→(∀a,a∈l↔a∈l')→l=l'
 |[],[],_,_,_=>rfl
 |[],b::_,_,_,h=>absurd ((h b).2 (List.mem_cons_self ..)) (by simp)
 |a::_,[],_,_,h=>absurd ((h a).1 (List.mem_cons_self ..)) (by simp)
 |a::l,b::l',h1,h2,h=>by
  obtain⟨ha,h1'⟩:=List.pairwise_cons.1 h1
  obtain⟨hb,h2'⟩:=List.pairwise_cons.1 h2
  have e:a=b:=by
   rcases List.mem_cons.1 ((h a).1 (List.mem_cons_self ..)) with e|h3
   ·exact e
   ·rcases List.mem_cons.1 ((h b).2 (List.mem_cons_self ..)) with e|h4
    ·exact e.symm
    ·exact absurd (ord_trans (ha b h4) (hb a h3)) (ord_irr a)
  subst e
  refine congrArg (a::·) (asc_ext h1' h2' λc=>?_)
  constructor
  ·intro hc
   rcases List.mem_cons.1 ((h c).1 (List.mem_cons_of_mem _ hc)) with rfl|h3
   ·exact absurd (ha c hc) (ord_irr c)
   ·exact h3
  ·intro hc
   rcases List.mem_cons.1 ((h c).2 (List.mem_cons_of_mem _ hc)) with rfl|h3
   ·exact absurd (hb c hc) (ord_irr c)
   ·exact h3
theorem mem_startL{r a:ReplicaD}{l:List ReplicaD}:a∈startL r l↔a=r∨a∈l:=by
 rw[startL]
 simp only[List.mem_append,List.mem_cons]
 constructor
 ·rintro(h|h|h)
  ·exact .inr ((List.takeWhile_sublist _).subset h)
  ·exact .inl h
  ·exact .inr ((List.dropWhile_sublist _).subset h)
 ·rintro(h|h)
  ·exact .inr (.inl h)
  ·rw[←List.takeWhile_append_dropWhile (p:=ltB r) (l:=l)] at h
   rcases List.mem_append.1 h with h|h
   ·exact .inl h
   ·exact .inr (.inr h)
theorem mem_stopF{r a:ReplicaD}{l:List ReplicaD}:a∈stopF r l↔a∈l∧a≠r:=by
 simp[stopF]
theorem len_startL{r:ReplicaD}{l:List ReplicaD}:(startL r l).length=l.length+1:=by
 have:=congrArg List.length (List.takeWhile_append_dropWhile (p:=ltB r) (l:=l))
 rw[List.length_append] at this
 rw[startL,List.length_append,List.length_cons]
 omega
theorem hasB_iff{l:List ReplicaD}{r:ReplicaD}:hasB l r=true↔r∈l:=by
 simp[hasB]
theorem asc_startL{r:ReplicaD}{l:List ReplicaD}(h:Asc l)(hr:r∉l):Asc (startL r l):=by
 rw[startL_pos]
 have hs:=asc_iff.2 h
 have hlt:∀a∈l.take (posI r l),ordI a r<0:=by
  intro a ha
  obtain⟨i,hi,rfl⟩:=List.getElem_of_mem ha
  rw[List.length_take] at hi
  rw[List.getElem_take]
  exact pos_below i (by omega) (by omega)
 have hgt:∀a∈l.drop (posI r l),ordI r a<0:=by
  intro a ha
  have hal:=List.mem_of_mem_drop ha
  obtain⟨i,hi,rfl⟩:=List.getElem_of_mem ha
  rw[List.length_drop] at hi
  rw[List.getElem_drop] at hal ⊢
  have h1:=pos_above (r:=r) hs (posI r l+i) (by omega) (by omega)
  rcases ord_tri l[posI r l+i] r with h2|h2|h2
  ·exact absurd h2 h1
  ·rw[h2] at hal;exact absurd hal hr
  ·exact h2
 refine List.pairwise_append.2 ⟨h.sublist (List.take_sublist _ _),List.pairwise_cons.2 ⟨hgt,h.sublist (List.drop_sublist _ _)⟩,λa ha b hb=>?_⟩
 rcases List.mem_cons.1 hb with rfl|hb
 ·exact hlt a ha
 ·exact ord_trans (hlt a ha) (hgt b hb)
theorem asc_stopF{r:ReplicaD}{l:List ReplicaD}(h:Asc l):Asc (stopF r l):=h.sublist List.filter_sublist
theorem len_stopF{r:ReplicaD}:∀{l:List ReplicaD},Asc l→r∈l→(stopF r l).length+1=l.length
 |[],_,h=>absurd h (by simp)
 |a::l,h,hr=>by
  obtain⟨ha,h1⟩:=List.pairwise_cons.1 h
  by_cases e:a=r
  ·subst e
   have:stopF a l=l:=by
    refine List.filter_eq_self.2 λb hb=>?_
    have hb:=ha b hb
    have:¬b=a:=by rintro rfl;exact ord_irr b hb
    simpa using this
   have h2:stopF a (a::l)=l:=by rw[stopF,List.filter_cons_of_neg (by simp)];exact this
   rw[h2,List.length_cons]
  ·have h2:stopF r (a::l)=a::stopF r l:=by rw[stopF,List.filter_cons_of_pos (by simpa using e)];rfl
   rw[h2,List.length_cons,List.length_cons,len_stopF h1 ((List.mem_cons.1 hr).resolve_left (λh=>e h.symm))]
theorem startE_iff{x:WorldD}{r:ReplicaD}:startE x r=0↔Asc x.replicas∧0≤r.service∧0≤r.host∧r∉x.replicas∧x.replicas.length<24:=by
 rw[←asc_iff,←hasB_iff]
 unfold startE
 constructor
 ·intro h
  split at h
  ·rename_i h1
   split at h
   ·cases h
   ·rename_i h2
    split at h
    ·cases h
    ·rename_i h3
     exact⟨h1.1,h1.2.1,h1.2.2,h2,by omega⟩
  ·cases h
 ·rintro⟨h1,h2,h3,h4,h5⟩
  rw[if_pos ⟨h1,h2,h3⟩,if_neg h4,if_neg (by omega)]
theorem stopE_iff{x:WorldD}{r:ReplicaD}:stopE x r=0↔Asc x.replicas∧r∈x.replicas:=by
 rw[←asc_iff,←hasB_iff]
 unfold stopE
 constructor
 ·intro h
  split at h
  ·rename_i h1
   split at h
   ·rename_i h2;exact⟨h1,h2⟩
   ·cases h
  ·cases h
 ·rintro⟨h1,h2⟩
  rw[if_pos h1,if_pos h2]
theorem startW_eq{x:WorldD}{r:ReplicaD}(h:startE x r=0):startW x r=⟨x.hosts,startL r x.replicas⟩:=by simp[startW,h]
theorem stopW_eq{x:WorldD}{r:ReplicaD}(h:stopE x r=0):stopW x r=⟨x.hosts,stopF r x.replicas⟩:=by simp[stopW,h]
theorem stop_start{x:WorldD}{r:ReplicaD}(h:startE x r=0):stopE (startW x r) r=0∧stopW (startW x r) r=x:=by
 obtain⟨h1,h2,h3,h4,h5⟩:=startE_iff.1 h
 rw[startW_eq h]
 have hs:=asc_startL h1 h4
 have he:stopE ⟨x.hosts,startL r x.replicas⟩ r=0:=stopE_iff.2 ⟨hs,mem_startL.2 (.inl rfl)⟩
 refine⟨he,?_⟩
 rw[stopW_eq he]
 have:stopF r (startL r x.replicas)=x.replicas:=asc_ext (asc_stopF hs) h1 λa=>by
  rw[mem_stopF,mem_startL]
  constructor
  ·rintro⟨h6|h6,h7⟩
   ·exact absurd h6 h7
   ·exact h6
  ·intro h6
   exact⟨.inr h6,by rintro rfl;exact h4 h6⟩
 simp only[this]
set_option maxHeartbeats 1000000
def kindOk(k:Int):Bool:=decide (1≤k)&&decide (k≤7)
def stepB2(s:SiteD)(wl:List ServiceD)(st:StepD):Bool:=kindOk st.kind&&stepOkB s wl (st.kind == 1||st.kind == 2) (st.kind == 7) st
def replOf(st:StepD):ReplicaD:=⟨st.service,st.host⟩
def hostAt(x:WorldD)(i:Int):StateD:=(x.hosts[i.toNat]?).getD ⟨0,0⟩
def runsB(x:WorldD)(h:Int):Bool:=x.replicas.any λr=>r.host == h
def readyK(x:WorldD)(st:StepD):Bool:=
 if st.kind=1 then(hostAt x st.host).phase == 0&&!hasB x.replicas (replOf st)&&decide (x.replicas.length<24)
 else if st.kind=2 then hasB x.replicas (replOf st)
 else if st.kind=3 then(hostAt x st.host).phase == 0
 else if st.kind=4 then(hostAt x st.host).phase == 1&&!runsB x st.host
 else if st.kind=5 then(hostAt x st.host).phase == 2&&!runsB x st.host
 else if st.kind=6 then(hostAt x st.host).phase == 1||(hostAt x st.host).phase == 2||(hostAt x st.host).phase == 3
 else(hostAt x st.host).phase == 2
def readyB(s:SiteD)(wl:List ServiceD)(x:WorldD)(st:StepD):Bool:=stepB2 s wl st&&validB s wl x&&readyK x st
def newState(h:StateD)(st:StepD):StateD:=
 if st.kind=3 then⟨1,h.firmware⟩ else if st.kind=4 then⟨2,h.firmware⟩ else if st.kind=5 then⟨3,h.firmware⟩ else if st.kind=6 then⟨0,h.firmware⟩ else if st.kind=7 then⟨h.phase,st.version⟩ else h
def applyE(s:SiteD)(wl:List ServiceD)(x:WorldD)(st:StepD):Int:=
 if (stepB2 s wl st&&validB s wl x)=true then
  if readyK x st=true then(if st.kind=1 then startE x (replOf st) else if st.kind=2 then stopE x (replOf st) else setE x st.host) else 8
 else 1
def applyW(s:SiteD)(wl:List ServiceD)(x:WorldD)(st:StepD):WorldD:=
 if readyB s wl x st=true then(if st.kind=1 then startW x (replOf st) else if st.kind=2 then stopW x (replOf st) else setW x st.host (newState (hostAt x st.host) st)) else noW
def undoK(x:WorldD)(st:StepD):List Int:=
 if st.kind=1 then[2]
 else if st.kind=2 then(if (hostAt x st.host).phase=0 then[1] else if (hostAt x st.host).phase=1 then[6,1,3] else[])
 else if st.kind=3 then[6]
 else if st.kind=4 then[6,3]
 else if st.kind=5 then[6,3,4]
 else if st.kind=6 then(if (hostAt x st.host).phase=1 then[3] else if runsB x st.host=true then[] else if (hostAt x st.host).phase=2 then[3,4] else if (hostAt x st.host).phase=3 then[3,4,5] else[])
 else[]
def undoS(x:WorldD)(st:StepD):List StepD:=(undoK x st).map λk=>⟨k,st.host,if k=1∨k=2 then st.service else 0,0⟩
section
variable{s:SiteD}{wl:List ServiceD}{x:WorldD}{st:StepD}
structure RdyOk (s:SiteD) (wl:List ServiceD) (x:WorldD) (st:StepD):Prop where
 kind:1≤st.kind∧st.kind≤7
 ok:stepB2 s wl st=true
 val:validB s wl x=true
 rdy:readyK x st=true
 host:0≤st.host∧st.host<x.hosts.length
 svc:0≤st.service
 asc:Asc x.replicas
 len:x.replicas.length≤24
theorem valid_parts(h:validB s wl x=true):siteB s=true∧wishB wl=true∧x.hosts.length=s.hosts.length∧x.replicas.length≤24∧sortedB x.replicas=true∧x.hosts.all stateB=true∧x.replicas.all (replB wl.length s.hosts.length)=true:=by
 simp only[validB,Bool.and_eq_true,decide_eq_true_eq] at h
 exact⟨h.1.1.1.1.1.1,h.1.1.1.1.1.2,h.1.1.1.1.2,h.1.1.1.2,h.1.1.2,h.1.2,h.2⟩
theorem step_parts(h:stepB2 s wl st=true):(1≤st.kind∧st.kind≤7)∧siteB s=true∧wishB wl=true∧0≤st.host∧st.host<s.hosts.length∧0≤st.service∧(st.kind=1∨st.kind=2→st.service<wl.length)∧(¬(st.kind=1∨st.kind=2)→st.service=0)∧0≤st.version∧(st.kind=7→st.version≤1000000)∧(¬st.kind=7→st.version=0):=by
 simp only[stepB2,kindOk,stepOkB,Bool.and_eq_true,decide_eq_true_eq,Bool.or_eq_true,beq_iff_eq] at h
 obtain⟨h0,⟨⟨⟨⟨⟨⟨h1,h2⟩,h3⟩,h4⟩,h5⟩,h6⟩,h7⟩,h8⟩:=h
 refine⟨h0,h1,h2,h3,h4,h5,λh=>?_,λh=>?_,h7,λh=>?_,λh=>?_⟩
 ·rwa [if_pos h] at h6
 ·rw[if_neg h] at h6;omega
 ·rwa [if_pos h] at h8
 ·rw[if_neg h] at h8;omega
theorem rdy_ok(h:readyB s wl x st=true):RdyOk s wl x st:=by
 simp only[readyB,Bool.and_eq_true] at h
 obtain⟨⟨h1,h2⟩,h3⟩:=h
 have a:=step_parts h1
 have b:=valid_parts h2
 exact⟨a.1,h1,h2,h3,⟨a.2.2.2.1,by have:=a.2.2.2.2.1;omega⟩,a.2.2.2.2.2.1,asc_iff.1 b.2.2.2.2.1,b.2.2.2.1⟩
theorem set_ok(h:RdyOk s wl x st):setOk x st.host=true:=by
 have:=h.host
 simp[setOk,idx,asc_iff.2 h.asc,this]
theorem apply_zero(h:readyB s wl x st=true):applyE s wl x st=0:=by
 have o:=rdy_ok h
 have hr:=o.rdy
 unfold applyE
 rw[if_pos (by simp[o.ok,o.val]),if_pos hr]
 split
 ·rename_i hk
  simp only[readyK,if_pos hk,Bool.and_eq_true,beq_iff_eq,Bool.not_eq_true',decide_eq_true_eq] at hr
  exact startE_iff.2 ⟨o.asc,o.svc,o.host.1,by rw[←hasB_iff];simp only[Bool.not_eq_true];exact hr.1.2,hr.2⟩
 ·split
  ·rename_i h1 hk
   simp only[readyK,if_neg h1,if_pos hk] at hr
   exact stopE_iff.2 ⟨o.asc,hasB_iff.1 hr⟩
  ·simp[setE,set_ok o]
theorem apply_iff:applyE s wl x st=0↔readyB s wl x st=true:=by
 constructor
 ·intro h
  unfold applyE at h
  split at h
  ·rename_i h1
   split at h
   ·rename_i h2;simp[readyB,h2] at h1 ⊢;exact h1
   ·cases h
  ·cases h
 ·exact apply_zero
end
section
variable{s:SiteD}{wl:List ServiceD}{x:WorldD}{st:StepD}{i p q k:Int}{l:List ReplicaD}
def PW(x:WorldD)(i p:Int)(l:List ReplicaD):WorldD:=⟨x.hosts.set i.toNat ⟨p,(hostAt x i).firmware⟩,l⟩
theorem hostAt_lt(h:0≤i∧i<x.hosts.length):∃hk:i.toNat<x.hosts.length,hostAt x i=x.hosts[i.toNat]:=by
 have hk:i.toNat<x.hosts.length:=by omega
 exact⟨hk,by simp[hostAt,hk]⟩
theorem hostAt_P(h:0≤i∧i<x.hosts.length):hostAt (PW x i p l) i=⟨p,(hostAt x i).firmware⟩:=by
 have hk:i.toNat<x.hosts.length:=by omega
 have:(PW x i p l).hosts[i.toNat]? = some ⟨p,(hostAt x i).firmware⟩:=by
  simp only[PW]
  rw[List.getElem?_set_self hk]
 simp only[hostAt] at this ⊢
 rw[this]
 rfl
theorem P_self(h:0≤i∧i<x.hosts.length):PW x i (hostAt x i).phase x.replicas=x:=by
 obtain⟨hk,e⟩:=hostAt_lt h
 have:x.hosts.set i.toNat ⟨(hostAt x i).phase,(hostAt x i).firmware⟩=x.hosts:=by
  rw[e]
  exact List.set_getElem_self hk
 simp only[PW,this]
structure RepOk (s:SiteD) (wl:List ServiceD) (l:List ReplicaD):Prop where
 len:l.length≤24
 asc:Asc l
 all:l.all (replB wl.length s.hosts.length)=true
theorem rep_ok(h:validB s wl x=true):RepOk s wl x.replicas:=by
 have b:=valid_parts h
 exact⟨b.2.2.2.1,asc_iff.1 b.2.2.2.2.1,b.2.2.2.2.2.2⟩
theorem all_set{f:StateD→Bool}{hs:List StateD}{n:Nat}{h:StateD}(ha:hs.all f=true)(hh:f h=true):(hs.set n h).all f=true:=by
 rw[List.all_eq_true] at ha ⊢
 intro y hy
 rcases List.mem_or_eq_of_mem_set hy with hy|rfl
 ·exact ha y hy
 ·exact hh
theorem valid_set{n:Nat}{h:StateD}(hv:validB s wl x=true)(hh:stateB h=true)(hl:RepOk s wl l):validB s wl ⟨x.hosts.set n h,l⟩=true:=by
 have b:=valid_parts hv
 simp only[validB,b.1,b.2.1,List.length_set,b.2.2.1,hl.len,asc_iff.2 hl.asc,hl.all,all_set b.2.2.2.2.2.1 hh,decide_true,Bool.and_self]
theorem state_ok(hv:validB s wl x=true)(h:0≤i∧i<x.hosts.length):stateB (hostAt x i)=true:=by
 obtain⟨hk,e⟩:=hostAt_lt h
 rw[e]
 exact List.all_eq_true.1 (valid_parts hv).2.2.2.2.2.1 _ (List.getElem_mem hk)
theorem valid_P(hv:validB s wl x=true)(h:0≤i∧i<x.hosts.length)(hp:p≤4)(hl:RepOk s wl l):validB s wl (PW x i p l)=true:=by
 have hs:=state_ok hv h
 simp only[stateB,Bool.and_eq_true,decide_eq_true_eq] at hs
 exact valid_set hv (by simp[stateB,hp,hs.2]) hl
theorem valid_same(hv:validB s wl x=true)(hl:RepOk s wl l):validB s wl ⟨x.hosts,l⟩=true:=by
 have b:=valid_parts hv
 simp only[validB,b.1,b.2.1,b.2.2.1,hl.len,asc_iff.2 hl.asc,hl.all,b.2.2.2.2.2.1,decide_true,Bool.and_self]
theorem rep_start{r:ReplicaD}(hl:RepOk s wl l)(hr:replB wl.length s.hosts.length r=true)(hn:r∉l)(h24:l.length<24):RepOk s wl (startL r l):=by
 refine⟨by rw[len_startL];omega,asc_startL hl.asc hn,?_⟩
 rw[List.all_eq_true]
 intro a ha
 rcases mem_startL.1 ha with rfl|ha
 ·exact hr
 ·exact List.all_eq_true.1 hl.all a ha
theorem rep_stop{r:ReplicaD}(hl:RepOk s wl l):RepOk s wl (stopF r l):=by
 refine⟨Nat.le_trans (stop_len _ _) hl.len,asc_stopF hl.asc,?_⟩
 rw[List.all_eq_true]
 intro a ha
 exact List.all_eq_true.1 hl.all a (mem_stopF.1 ha).1
def Moves(l:List ReplicaD)(i k p q:Int):Prop:=(k=3∧p=0∧q=1)∨(k=4∧p=1∧q=2∧(l.any λr=>r.host == i)=false)∨(k=5∧p=2∧q=3∧(l.any λr=>r.host == i)=false)∨(k=6∧(p=1∨p=2∨p=3)∧q=0)
theorem step_plain(hv:validB s wl x=true)(h:0≤i∧i<x.hosts.length)(hk:3≤k∧k≤6):stepB2 s wl ⟨k,i,0,0⟩=true:=by
 have b:=valid_parts hv
 have h1:¬(k=1):=by omega
 have h2:¬(k=2):=by omega
 have h7:¬(k=7):=by omega
 have e1:(k == 1||k == 2)=false:=by simp[h1,h2]
 have e7:(k == 7)=false:=by simp[h7]
 simp only[stepB2,kindOk,stepOkB,e1,e7,b.1,b.2.1,Bool.and_eq_true,decide_eq_true_eq,Bool.true_and,Bool.false_eq_true,if_false]
 omega
theorem move(hv:validB s wl x=true)(h:0≤i∧i<x.hosts.length)(hl:RepOk s wl l)(hp:p≤4)(hm:Moves l i k p q):readyB s wl (PW x i p l) ⟨k,i,0,0⟩=true∧applyW s wl (PW x i p l) ⟨k,i,0,0⟩=PW x i q l:=by
 have hvp:=valid_P (l:=l) hv h hp hl
 have hlen:(PW x i p l).hosts.length=x.hosts.length:=by simp[PW]
 have hr:readyB s wl (PW x i p l) ⟨k,i,0,0⟩=true:=by
  have hk:3≤k∧k≤6:=by rcases hm with h|h|h|h<;>omega
  have h1:=step_plain (x:=PW x i p l) (k:=k) hvp (by rw[hlen];exact h) hk
  have h2:readyK (PW x i p l) ⟨k,i,0,0⟩=true:=by
   simp only[readyK,hostAt_P h,runsB]
   rcases hm with ⟨rfl,rfl,rfl⟩|⟨rfl,rfl,rfl,hn⟩|⟨rfl,rfl,rfl,hn⟩|⟨rfl,hpp,rfl⟩
   ·simp
   ·simp[PW,hn] at *
    try exact hn
   ·simp[PW] at *
    try exact hn
   ·rcases hpp with rfl|rfl|rfl<;>simp
  simp only[readyB,h1,hvp,h2,Bool.and_self]
 refine⟨hr,?_⟩
 have hset:∀y:StateD,setW (PW x i p l) i y=⟨x.hosts.set i.toNat y,l⟩:=by
  intro y
  have:setOk (PW x i p l) i=true:=by
   simp only[setOk,hlen,idx,Bool.and_eq_true,decide_eq_true_eq]
   exact⟨asc_iff.2 hl.asc,by omega⟩
  rw[setW,if_pos this]
  simp only[PW,List.set_set]
 unfold applyW
 rw[if_pos hr]
 simp only[hostAt_P h,newState]
 rcases hm with ⟨rfl,rfl,rfl⟩|⟨rfl,rfl,rfl,hn⟩|⟨rfl,rfl,rfl,hn⟩|⟨rfl,hpp,rfl⟩<;>simp only[hset]<;>simp[PW,hset]
end
section
variable{s:SiteD}{wl:List ServiceD}{x:WorldD}{st:StepD}{i p q k:Int}{l:List ReplicaD}
def runU(s:SiteD)(wl:List ServiceD):WorldD→List StepD→Option WorldD
 |v,[]=>some v
 |v,u::t=>if readyB s wl v u=true then runU s wl (applyW s wl v u) t else none
theorem runU_cons{v v':WorldD}{u:StepD}{t:List StepD}(h:readyB s wl v u=true∧applyW s wl v u=v'):runU s wl v (u::t)=runU s wl v' t:=by
 rw[runU,if_pos h.1,h.2]
theorem phase_le(hv:validB s wl x=true)(h:0≤i∧i<x.hosts.length):(hostAt x i).phase≤4:=by
 have hs:=state_ok hv h
 simp only[stateB,Bool.and_eq_true,decide_eq_true_eq] at hs
 exact hs.1
theorem st_plain(ok:stepB2 s wl st=true)(hk:3≤st.kind∧st.kind≤6):st=⟨st.kind,st.host,0,0⟩:=by
 have a:=step_parts ok
 have h1:=a.2.2.2.2.2.2.2.1 (by omega)
 have h2:=a.2.2.2.2.2.2.2.2.2.2 (by omega)
 cases st
 simp only at h1 h2
 subst h1
 subst h2
 rfl
theorem apply_move(h:readyB s wl x st=true)(hk:3≤st.kind∧st.kind≤6):∃q,Moves x.replicas st.host st.kind (hostAt x st.host).phase q∧applyW s wl x st=PW x st.host q x.replicas:=by
 have o:=rdy_ok h
 have hr:=o.rdy
 have e:=st_plain o.ok hk
 have hm:∃q,Moves x.replicas st.host st.kind (hostAt x st.host).phase q:=by
  unfold readyK at hr
  have h1:¬st.kind=1:=by omega
  have h2:¬st.kind=2:=by omega
  rw[if_neg h1,if_neg h2] at hr
  split at hr
  ·rename_i h3;exact⟨1,.inl ⟨h3,by simpa using hr,rfl⟩⟩
  ·split at hr
   ·rename_i h4
    simp only[Bool.and_eq_true,beq_iff_eq,Bool.not_eq_true',runsB] at hr
    exact⟨2,.inr (.inl ⟨h4,hr.1,rfl,hr.2⟩)⟩
   ·split at hr
    ·rename_i h5
     simp only[Bool.and_eq_true,beq_iff_eq,Bool.not_eq_true',runsB] at hr
     exact⟨3,.inr (.inr (.inl ⟨h5,hr.1,rfl,hr.2⟩))⟩
    ·rename_i h3 h4 h5
     have h6:st.kind=6:=by omega
     rw[if_pos h6] at hr
     simp only[Bool.or_eq_true,beq_iff_eq] at hr
     exact⟨0,.inr (.inr (.inr ⟨h6,by omega,rfl⟩))⟩
 obtain⟨q,hm⟩:=hm
 have h2:=(move o.val o.host (rep_ok o.val) (phase_le o.val o.host) hm).2
 rw[P_self o.host,←e] at h2
 exact⟨q,hm,h2⟩
theorem repl_ok(ok:stepB2 s wl st=true)(hk:st.kind=1∨st.kind=2):replB wl.length s.hosts.length (replOf st)=true:=by
 have a:=step_parts ok
 have h1:=a.2.2.2.2.2.2.1 hk
 simp[replB,replOf,idx,a.2.2.2.2.2.1,h1,a.2.2.2.1,a.2.2.2.2.1]
theorem start_parts(h:readyB s wl x st=true)(hk:st.kind=1):(hostAt x st.host).phase=0∧replOf st∉x.replicas∧x.replicas.length<24∧startE x (replOf st)=0∧applyW s wl x st=⟨x.hosts,startL (replOf st) x.replicas⟩:=by
 have o:=rdy_ok h
 have hr:=o.rdy
 simp only[readyK,if_pos hk,Bool.and_eq_true,beq_iff_eq,Bool.not_eq_true',decide_eq_true_eq] at hr
 have hn:replOf st∉x.replicas:=by rw[←hasB_iff];simp only[Bool.not_eq_true];exact hr.1.2
 have he:startE x (replOf st)=0:=startE_iff.2 ⟨o.asc,o.svc,o.host.1,hn,hr.2⟩
 exact⟨hr.1.1,hn,hr.2,he,by rw[applyW,if_pos h,if_pos hk,startW_eq he]⟩
theorem stop_parts(h:readyB s wl x st=true)(hk:st.kind=2):replOf st∈x.replicas∧stopE x (replOf st)=0∧applyW s wl x st=⟨x.hosts,stopF (replOf st) x.replicas⟩:=by
 have o:=rdy_ok h
 have hr:=o.rdy
 have h1:¬st.kind=1:=by omega
 simp only[readyK,if_neg h1,if_pos hk] at hr
 have hm:=hasB_iff.1 hr
 have he:stopE x (replOf st)=0:=stopE_iff.2 ⟨o.asc,hm⟩
 exact⟨hm,he,by rw[applyW,if_pos h,if_neg h1,if_pos hk,stopW_eq he]⟩
theorem flash_eq(h:readyB s wl x st=true)(hk:st.kind=7):applyW s wl x st=⟨x.hosts.set st.host.toNat ⟨(hostAt x st.host).phase,st.version⟩,x.replicas⟩:=by
 have o:=rdy_ok h
 have hs:=set_ok o
 rw[applyW,if_pos h,if_neg (by omega),if_neg (by omega),setW,if_pos hs]
 simp[newState,hk]
theorem apply_valid(h:readyB s wl x st=true):validB s wl (applyW s wl x st)=true:=by
 have o:=rdy_ok h
 have hl:=rep_ok o.val
 by_cases h1:st.kind=1
 ·obtain⟨_,hn,h24,_,e⟩:=start_parts h h1
  rw[e]
  exact valid_same o.val (rep_start hl (repl_ok o.ok (.inl h1)) hn h24)
 ·by_cases h2:st.kind=2
  ·rw[(stop_parts h h2).2.2]
   exact valid_same o.val (rep_stop hl)
  ·by_cases h7:st.kind=7
   ·rw[flash_eq h h7]
    have a:=step_parts o.ok
    refine valid_set o.val ?_ hl
    have hp:=phase_le o.val o.host
    have hv:=a.2.2.2.2.2.2.2.2.2.1 h7
    have hv0:=a.2.2.2.2.2.2.2.2.1
    simp[stateB,btw,hp,hv,hv0]
   ·obtain⟨q,hm,e⟩:=apply_move h (by have:=o.kind;omega)
    rw[e]
    exact valid_P o.val o.host (by rcases hm with h|h|h|h<;>omega) hl
theorem start_back{r:ReplicaD}(hl:RepOk s wl l)(hm:r∈l):startL r (stopF r l)=l:=by
 have hn:r∉stopF r l:=λh3=>(mem_stopF.1 h3).2 rfl
 refine asc_ext (asc_startL (asc_stopF hl.asc) hn) hl.asc λa=>?_
 rw[mem_startL,mem_stopF]
 constructor
 ·rintro(rfl|h6)
  ·exact hm
  ·exact h6.1
 ·intro h6
  by_cases e:a=r
  ·exact .inl e
  ·exact .inr ⟨h6,e⟩
end
section
variable{s:SiteD}{wl:List ServiceD}{x:WorldD}{st:StepD}{i p q k:Int}{l:List ReplicaD}
theorem runU_move(hv:validB s wl x=true)(h:0≤i∧i<x.hosts.length)(hl:RepOk s wl l)(hp:p≤4)(hm:Moves l i k p q)(t:List StepD):runU s wl (PW x i p l) (⟨k,i,0,0⟩::t)=runU s wl (PW x i q l) t:=
 runU_cons (move hv h hl hp hm)
theorem undo_back(h:readyB s wl x st=true)(hu:undoK x st≠[]):runU s wl (applyW s wl x st) (undoS x st)=some x:=by
 have o:=rdy_ok h
 have hl:=rep_ok o.val
 have hh:=o.host
 have hend:∀l',l'=x.replicas→∀p,p=(hostAt x st.host).phase→runU s wl (PW x st.host p l') []=some x:=by
  rintro _ rfl _ rfl
  rw[runU,P_self hh]
 have a:=step_parts o.ok
 by_cases h1:st.kind=1
 ·obtain⟨hp,hn,h24,he,e⟩:=start_parts h h1
  have hu':undoS x st=[⟨2,st.host,st.service,0⟩]:=by simp[undoS,undoK,h1]
  rw[hu',e]
  have hv:validB s wl ⟨x.hosts,startL (replOf st) x.replicas⟩=true:=by rw[←e];exact apply_valid h
  have hok:stepB2 s wl ⟨2,st.host,st.service,0⟩=true:=by
   have h9:=a.2.2.2.2.2.2.1 (.inl h1)
   have h8:=a.2.2.2.1
   have h7:=a.2.2.2.2.1
   have h6:=a.2.2.2.2.2.1
   simp[stepB2,kindOk,stepOkB,a.2.1,a.2.2.1,h9,h8,h7,h6]
  have hr:readyB s wl ⟨x.hosts,startL (replOf st) x.replicas⟩ ⟨2,st.host,st.service,0⟩=true:=by
   have:hasB (startL (replOf st) x.replicas) (replOf st)=true:=hasB_iff.2 (mem_startL.2 (.inl rfl))
   simp only[readyB,hok,hv,Bool.and_self,Bool.true_and]
   simp only[readyK]
   exact this
  have hs:=stop_start he
  rw[startW_eq he] at hs
  refine(runU_cons ⟨hr,?_⟩).trans rfl
  rw[applyW,if_pos hr,if_neg (show ¬((2:Int)=1) by decide),if_pos rfl]
  exact hs.2
 ·by_cases h2:st.kind=2
  ·obtain⟨hm,he,e⟩:=stop_parts h h2
   have hstop:RepOk s wl (stopF (replOf st) x.replicas):=rep_stop hl
   have hns:replOf st∉stopF (replOf st) x.replicas:=λh3=>(mem_stopF.1 h3).2 rfl
   have hls:=len_stopF hl.asc hm
   have hlen:=hl.len
   have hok:stepB2 s wl ⟨1,st.host,st.service,0⟩=true:=by
    have h9:=a.2.2.2.2.2.2.1 (.inr h2)
    have h8:=a.2.2.2.1
    have h7:=a.2.2.2.2.1
    have h6:=a.2.2.2.2.2.1
    simp[stepB2,kindOk,stepOkB,a.2.1,a.2.2.1,h9,h8,h7,h6]
   have hst:∀t,runU s wl (PW x st.host 0 (stopF (replOf st) x.replicas)) (⟨1,st.host,st.service,0⟩::t)=runU s wl (PW x st.host 0 x.replicas) t:=by
    intro t
    have hvp:=valid_P (p:=0) o.val hh (by decide) hstop
    have hno:hasB (stopF (replOf st) x.replicas) (replOf st)=false:=by rw[←Bool.not_eq_true,hasB_iff];exact hns
    have hr:readyB s wl (PW x st.host 0 (stopF (replOf st) x.replicas)) ⟨1,st.host,st.service,0⟩=true:=by
     have hk:readyK (PW x st.host 0 (stopF (replOf st) x.replicas)) ⟨1,st.host,st.service,0⟩=true:=by
      unfold readyK
      rw[if_pos rfl]
      simp only[hostAt_P hh]
      show((0:Int) == 0&&!hasB (stopF (replOf st) x.replicas) (replOf st)&&decide ((stopF (replOf st) x.replicas).length<24))=true
      rw[hno]
      simp
      omega
     simp only[readyB,hok,hvp,hk,Bool.and_self]
    refine runU_cons ⟨hr,?_⟩
    have h5:=(start_parts hr rfl).2.2.2.2
    rw[h5]
    show(⟨_,startL (replOf st) (stopF (replOf st) x.replicas)⟩:WorldD)=_
    rw[start_back hl hm]
    rfl
   rw[e]
   by_cases hp0:(hostAt x st.host).phase=0
   ·have hu':undoS x st=[⟨1,st.host,st.service,0⟩]:=by simp[undoS,undoK,h2,hp0]
    rw[hu']
    have e0:(⟨x.hosts,stopF (replOf st) x.replicas⟩:WorldD)=PW x st.host 0 (stopF (replOf st) x.replicas):=by
     have:=congrArg WorldD.hosts (P_self (x:=x) hh)
     rw[hp0] at this
     simp only[PW] at this ⊢
     rw[this]
    rw[e0,hst]
    exact hend _ rfl _ hp0.symm
   ·by_cases hp1:(hostAt x st.host).phase=1
    ·have hu':undoS x st=[⟨6,st.host,0,0⟩,⟨1,st.host,st.service,0⟩,⟨3,st.host,0,0⟩]:=by simp[undoS,undoK,h2,hp1]
     rw[hu']
     have e0:(⟨x.hosts,stopF (replOf st) x.replicas⟩:WorldD)=PW x st.host 1 (stopF (replOf st) x.replicas):=by
      have:=congrArg WorldD.hosts (P_self (x:=x) hh)
      rw[hp1] at this
      simp only[PW] at this ⊢
      rw[this]
     rw[e0,runU_move (q:=0) o.val hh hstop (by decide) (.inr (.inr (.inr ⟨rfl,.inl rfl,rfl⟩))),hst,runU_move (q:=1) o.val hh hl (by decide) (.inl ⟨rfl,rfl,rfl⟩)]
     exact hend _ rfl _ hp1.symm
    ·exact absurd (by simp[undoK,h2,hp0,hp1]) hu
  ·by_cases h7:st.kind=7
   ·exact absurd (by simp[undoK,h7]) hu
   ·obtain⟨q,hm,e⟩:=apply_move h (by have:=o.kind;omega)
    rw[e]
    rcases hm with ⟨hk,hp,rfl⟩|⟨hk,hp,rfl,hn⟩|⟨hk,hp,rfl,hn⟩|⟨hk,hp,rfl⟩
    ·have hu':undoS x st=[⟨6,st.host,0,0⟩]:=by simp[undoS,undoK,hk]
     rw[hu',runU_move (q:=0) o.val hh hl (by decide) (.inr (.inr (.inr ⟨rfl,.inl rfl,rfl⟩)))]
     exact hend _ rfl _ hp.symm
    ·have hu':undoS x st=[⟨6,st.host,0,0⟩,⟨3,st.host,0,0⟩]:=by simp[undoS,undoK,hk]
     rw[hu',runU_move (q:=0) o.val hh hl (by decide) (.inr (.inr (.inr ⟨rfl,.inr (.inl rfl),rfl⟩))),runU_move (q:=1) o.val hh hl (by decide) (.inl ⟨rfl,rfl,rfl⟩)]
     exact hend _ rfl _ hp.symm
    ·have hu':undoS x st=[⟨6,st.host,0,0⟩,⟨3,st.host,0,0⟩,⟨4,st.host,0,0⟩]:=by simp[undoS,undoK,hk]
     rw[hu',runU_move (q:=0) o.val hh hl (by decide) (.inr (.inr (.inr ⟨rfl,.inr (.inr rfl),rfl⟩))),runU_move (q:=1) o.val hh hl (by decide) (.inl ⟨rfl,rfl,rfl⟩),runU_move (q:=2) o.val hh hl (by decide) (.inr (.inl ⟨rfl,rfl,rfl,hn⟩))]
     exact hend _ rfl _ hp.symm
    ·by_cases hp1:(hostAt x st.host).phase=1
     ·have hu':undoS x st=[⟨3,st.host,0,0⟩]:=by simp[undoS,undoK,hk,hp1]
      rw[hu',runU_move (q:=1) o.val hh hl (by decide) (.inl ⟨rfl,rfl,rfl⟩)]
      exact hend _ rfl _ hp1.symm
     ·by_cases hn:runsB x st.host=true
      ·exact absurd (by simp[undoK,hk,hp1,hn]) hu
      ·have hn':(x.replicas.any λr=>r.host == st.host)=false:=by simpa [runsB] using hn
       have hn:runsB x st.host=false:=hn'
       rcases hp with hp|hp|hp
       ·exact absurd hp hp1
       ·have hu':undoS x st=[⟨3,st.host,0,0⟩,⟨4,st.host,0,0⟩]:=by simp[undoS,undoK,hk,hp,hn]
        rw[hu',runU_move (q:=1) o.val hh hl (by decide) (.inl ⟨rfl,rfl,rfl⟩),runU_move (q:=2) o.val hh hl (by decide) (.inr (.inl ⟨rfl,rfl,rfl,hn'⟩))]
        exact hend _ rfl _ hp.symm
       ·have hu':undoS x st=[⟨3,st.host,0,0⟩,⟨4,st.host,0,0⟩,⟨5,st.host,0,0⟩]:=by simp[undoS,undoK,hk,hp,hn]
        rw[hu',runU_move (q:=1) o.val hh hl (by decide) (.inl ⟨rfl,rfl,rfl⟩),runU_move (q:=2) o.val hh hl (by decide) (.inr (.inl ⟨rfl,rfl,rfl,hn'⟩)),runU_move (q:=3) o.val hh hl (by decide) (.inr (.inr (.inl ⟨rfl,rfl,rfl,hn'⟩)))]
        exact hend _ rfl _ hp.symm
end
section
variable{s:SiteD}{wl:List ServiceD}{x:WorldD}{st a b:StepD}
def hostsA(hs:List StateD)(x:WorldD)(st:StepD):List StateD:=if st.kind=1∨st.kind=2 then hs else hs.set st.host.toNat (newState (hostAt x st.host) st)
def repsA(l:List ReplicaD)(st:StepD):List ReplicaD:=if st.kind=1 then startL (replOf st) l else if st.kind=2 then stopF (replOf st) l else l
theorem apply_eq(h:readyB s wl x st=true):applyW s wl x st=⟨hostsA x.hosts x st,repsA x.replicas st⟩:=by
 by_cases h1:st.kind=1
 ·rw[(start_parts h h1).2.2.2.2]
  simp[hostsA,repsA,h1]
 ·by_cases h2:st.kind=2
  ·rw[(stop_parts h h2).2.2]
   simp[hostsA,repsA,h2]
  ·have o:=rdy_ok h
   rw[applyW,if_pos h,if_neg h1,if_neg h2,setW,if_pos (set_ok o)]
   simp[hostsA,repsA,h1,h2]
end
section
variable{s:SiteD}{wl:List ServiceD}{x:WorldD}{st:StepD}
theorem touch_len(h:readyB s wl x st=true):(applyW s wl x st).hosts.length=x.hosts.length:=by
 rw[apply_eq h]
 show(hostsA x.hosts x st).length=_
 unfold hostsA
 split
 ·rfl
 ·rw[List.length_set]
end
end Go.Proofs.YtphciegaokdolaaGreatDoor
