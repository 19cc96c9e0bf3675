/- The document's answer, layer 13, and the layer world: a world in memory of its own. -/
import Derived.Test.YtphciegaokdolaaGreatDoorRef13
import Derived.Test.YtphciegaokdolaaGreatDoorRow
namespace Go.Proofs.YtphciegaokdolaaGreatDoor
set_option linter.unusedSimpArgs false
set_option linter.unusedVariables false
open Go Go.RowKit
set_option maxRecDepth 100000
set_option linter.unusedSectionVars false
set_option maxHeartbeats 1000000
theorem sxCopy131{p q:Prop}(hq:q)(h:p=q:=by first|(simp(maxDischargeDepth:=3) only[↓X,↓Y,↓Q,S1,↓reduceIte,Nat.reduceEqDiff,Nat.reduceAdd,Int.reduceLT,Int.reduceLE,Int.reduceNeg,Int.reduceBEq,Int.reduceBNe,Int.reduceEq,Nat.reduceLeDiff,Nat.reduceMul,Nat.reduceLT, *,List.take_zero,List.all_nil,List.any_nil];try exact rfl)|(simp(singlePass:=true) (maxDischargeDepth:=99) only[*,S2,Nat.reduceLT,List.take_zero,List.all_nil,List.any_nil];try exact rfl)):p:=h▸hq
def stateC(x:StateD):List Value:=[.int .u8 x.phase,intV x.firmware]
def replC(x:ReplicaD):List Value:=[intV x.service,intV x.host]
theorem stateC_one(x:StateD):∀v∈stateC x,v.oneCell'=true:=by simp[stateC,intV,one_int]
theorem replC_one(x:ReplicaD):∀v∈replC x,v.oneCell'=true:=by simp[replC,intV,one_int]
abbrev OwnH(w:World)(B:Nat)(v:Value)(l:List StateD):Prop:=Own w B 82 2 v (l.map stateC)
abbrev OwnP(w:World)(B:Nat)(v:Value)(l:List ReplicaD):Prop:=Own w B 98 2 v (l.map replC)
section
variable{w:World}{B:Nat}{hv rv:Value}{x:WorldD}
theorem newH{v:Value}{l:List StateD}{k:Value→World→Prop}{s:Value}(hown:OwnH w w.heap.size s [])(hv:Sl w B (some 2) 2 v (l.map stateV))(hbound:l.length<1000000000000)(h:∀v' w',Now w'→St w w'→OwnH w' w.heap.size v' l→k v' w'):appX Tryz.prog 33 33 33 s v w k:=
 appendNew_k (e:=82) (sz:=2) (by_:=16) (z:=.agg #[.int .u8 0,.int .i64 0]) hown KR KR rfl (by decide) (by decide) hv (λ_=>rfl) stateC_one hbound h
theorem newP{v:Value}{l:List ReplicaD}{k:Value→World→Prop}{s:Value}(hown:OwnP w w.heap.size s [])(hv:Sl w B (some 2) 2 v (l.map replicaV))(hbound:l.length<1000000000000)(h:∀v' w',Now w'→St w w'→OwnP w' w.heap.size v' l→k v' w'):appX Tryz.prog 34 34 34 s v w k:=
 appendNew_k (e:=98) (sz:=2) (by_:=16) (z:=.agg #[.int .i64 0,.int .i64 0]) hown KR KR rfl (by decide) (by decide) hv (λ_=>rfl) replC_one hbound h
def OwnW(B:Nat)(v:Value)(w:World)(x:WorldD):Prop:=∃hv rv,v=.agg #[hv,rv]∧OwnH w B hv x.hosts∧OwnP w B rv x.replicas
theorem ref13Copy(hB:B≤w.heap.size)(hx0:WorldR w B hv rv x)(hlen:x.hosts.length<1000000000000∧x.replicas.length<1000000000000):CallsV Tryz.prog 43 #[.agg #[hv,rv]] w λv w'=>Ext w w'∧OwnW w.heap.size v w' x:=by
 have⟨hn,hx⟩:=bg0 w
 have hx':=hx0.sk hB
 have hX:=hx'.2.2.2.2
 obtain⟨hl1,hl2⟩:=hlen
 have hbw:Bl B w w:=FR
 (refine callsV_of Tryz.func43 rfl KR KR ?_;rw[Tryz.results43])
 (repeat' first|(with_reducible first|exact⟨⟩|(refine gB ?_;intros)|refine gT ?_ ?_)|refine gs ?_|refine sx ?_)
 refine newH (B:=B) (Own.nil _ _ _ _) (WorldR.h (hX _ FR)) hl1 ?_
 intro h2 w1 n1 s1 hown1
 have o1:=hown1.o
 (repeat' first|(with_reducible first|exact⟨⟩|(refine gB ?_;intros)|refine gT ?_ ?_)|refine gs ?_|refine sx ?_)
 refine st_one KR (by simp) o1.2.2.2.1 λw4 n4 k4 s4=>?_
 simp only[List.set_cons_zero,List.set_cons_succ] at k4
 (repeat' first|(with_reducible first|exact⟨⟩|(refine gB ?_;intros)|refine gT ?_ ?_)|refine gs ?_|refine sx ?_)
 refine newP (B:=B) (Own.nil _ _ _ _) (WorldR.r (hX _ FR)) hl2 ?_
 intro r2 w2 n2 s2 hown2
 have o2:=hown2.o
 (repeat' first|(with_reducible first|exact⟨⟩|(refine gB ?_;intros)|refine gT ?_ ?_)|refine gs ?_|refine sx ?_)
 refine st_one KR (by simp) o2.2.2.2.1 λw5 n5 k5 s5=>?_
 simp only[List.set_cons_zero,List.set_cons_succ] at k5
 (repeat' first|(with_reducible first|exact⟨⟩|(refine gB ?_;intros)|refine gT ?_ ?_)|refine gs ?_|refine sx ?_)
 exact⟨_,_,rfl,Own.more (o1.1 _ FR) FR,Own.more (o2.1 _ FR) FR⟩
end
section
variable{w:World}{B B':Nat}{hv rv hv' rv':Value}{x y:WorldD}
theorem sameD{x y:WorldD}:decide (x=y)=(decide (x.hosts=y.hosts)&&decide (x.replicas=y.replicas)):=by
 cases x;cases y
 rw[Bool.eq_iff_iff];simp
theorem ref13Same(hB:B≤w.heap.size)(hB':B'≤w.heap.size)(hx0:WorldR w B hv rv x)(hy0:WorldR w B' hv' rv' y):Ret Tryz.prog 19 #[.agg #[hv,rv],.agg #[hv',rv']] w (.bool (decide (x=y))):=by
 have⟨hn,hx⟩:=bg0 w
 have hx':=hx0.sk hB
 have hy':=hy0.sk hB'
 have hne1:¬x.hosts=y.hosts→decide (x=y)=false:=λh=>by rw[sameD,decide_eq_false h];rfl
 have hne2:¬x.replicas=y.replicas→decide (x=y)=false:=λh=>by rw[sameD,decide_eq_false h,Bool.and_false]
 have hall:x.hosts=y.hosts→x.replicas=y.replicas→decide (x=y)=true:=λh1 h2=>by rw[sameD,decide_eq_true h1,decide_eq_true h2];rfl
 generalize decide (x=y)=d at *
 have hne1:Hid _:=hne1
 have hne2:Hid _:=hne2
 have hall:Hid _:=hall
 (refine callsV_of Tryz.func19 rfl KR KR ?_;rw[Tryz.results19])
 (repeat' first|(with_reducible first|exact⟨⟩|(refine gB ?_;intros)|refine gT ?_ ?_)|refine gs ?_|refine sx ?_)
 ·rename_i h1 h2
  have hl1:Hid (x.hosts.length=y.hosts.length):=h1
  have hl2:Hid (x.replicas.length=y.replicas.length):=h2
  clear h1 h2
  refine loop_k (x.hosts.length) (λg0 k g _=>g 5=.int .i64 k∧(g 2=g0 2∧g 3=g0 3)∧Hid (x.hosts.take k=y.hosts.take k)) KR (hx0.h.max_) ?_ ?_ ?_
  ·(repeat' first|(with_reducible first|exact⟨⟩|(refine gB ?_;intros)|refine gT ?_ ?_)|refine gs ?_|refine sxCopy131 ?_)
   exact trivial
  ·rintro k m g wk hk hlt _ _ _ hw ⟨hi,hf,hp⟩
   simp(maxDischargeDepth:=3) only[U,↓reduceIte,Nat.reduceEqDiff, *] at hf
   have hb2:k<y.hosts.length:=by have:=hl1.out;omega
   (repeat' first|(with_reducible first|exact⟨⟩|(refine gB ?_;intros)|refine gT ?_ ?_)|refine gs ?_|simp(maxDischargeDepth:=3) only[↓X,↓Y,↓Q,S1,↓reduceIte,Nat.reduceEqDiff,Nat.reduceAdd,Int.reduceLT,Int.reduceLE,Int.reduceNeg,Int.reduceBEq,Int.reduceBNe,Int.reduceEq,Nat.reduceLeDiff,Nat.reduceMul,Nat.reduceLT, *,stateV,state_eq,dec_not]|simp(singlePass:=true) (maxDischargeDepth:=99) only[*,S2,Nat.reduceLT,stateV,state_eq,dec_not])
   ·rename_i h
    refine next_k hk hlt ?_ FR
    (repeat' first|(with_reducible first|exact⟨⟩|(refine gB ?_;intros)|refine gT ?_ ?_)|refine gs ?_|refine sx ?_)
    exact take_next hp.out hlt hb2 h
   ·rename_i h
    have h4:¬x.hosts=y.hosts:=λh5=>h (by simp only[h5])
    rw[hne1.out h4]
  ·rintro g wk _ _ _ ⟨hi,hf,hp⟩
   simp(maxDischargeDepth:=3) only[U,↓reduceIte,Nat.reduceEqDiff, *] at hf
   have e1:Hid (x.hosts=y.hosts):=take_full hp.out hl1.out
   clear hp
   (repeat' first|(with_reducible first|exact⟨⟩|(refine gB ?_;intros)|refine gT ?_ ?_)|refine gs ?_|refine sx ?_)
   refine loop_k (x.replicas.length) (λg0 k g _=>g 6=.int .i64 k∧(g 2=g0 2∧g 3=g0 3)∧Hid (x.replicas.take k=y.replicas.take k)) KR (hx0.r.max_) ?_ ?_ ?_
   ·(repeat' first|(with_reducible first|exact⟨⟩|(refine gB ?_;intros)|refine gT ?_ ?_)|refine gs ?_|refine sxCopy131 ?_)
    exact trivial
   ·rintro k m g wk hk hlt _ _ _ hw ⟨hi,hf,hp⟩
    simp(maxDischargeDepth:=3) only[U,↓reduceIte,Nat.reduceEqDiff, *] at hf
    have hb2:k<y.replicas.length:=by have:=hl2.out;omega
    (repeat' first|(with_reducible first|exact⟨⟩|(refine gB ?_;intros)|refine gT ?_ ?_)|refine gs ?_|simp(maxDischargeDepth:=3) only[↓X,↓Y,↓Q,S1,↓reduceIte,Nat.reduceEqDiff,Nat.reduceAdd,Int.reduceLT,Int.reduceLE,Int.reduceNeg,Int.reduceBEq,Int.reduceBNe,Int.reduceEq,Nat.reduceLeDiff,Nat.reduceMul,Nat.reduceLT, *,replicaV,repl_eq,dec_not]|simp(singlePass:=true) (maxDischargeDepth:=99) only[*,S2,Nat.reduceLT,replicaV,repl_eq,dec_not])
    ·rename_i h
     refine next_k hk hlt ?_ FR
     (repeat' first|(with_reducible first|exact⟨⟩|(refine gB ?_;intros)|refine gT ?_ ?_)|refine gs ?_|refine sx ?_)
     exact take_next hp.out hlt hb2 h
    ·rename_i h
     have h4:¬x.replicas=y.replicas:=λh5=>h (by simp only[h5])
     rw[hne2.out h4]
   ·rintro g wk _ _ _ ⟨hi,hf,hp⟩
    simp(maxDischargeDepth:=3) only[U,↓reduceIte,Nat.reduceEqDiff, *] at hf
    have e2:=take_full hp.out hl2.out
    (repeat' first|(with_reducible first|exact⟨⟩|(refine gB ?_;intros)|refine gT ?_ ?_)|refine gs ?_|refine sx ?_)
    rw[hall.out e1.out e2]
 ·rename_i h
  rw[hne2.out λh5=>h (by rw[h5])]
 ·rename_i h
  rw[hne1.out λh5=>h (by rw[h5])]
end
section
variable{w:World}{B B':Nat}{hv rv hv' rv':Value}{x y:WorldD}
theorem Own.ofBlkN{e sz n:Nat}{b:Nat}{cs:List (List Value)}(hn:n=cs.length)(h:Blk w b e cs.flatten)(hc:∀c∈cs,c.length=sz)(hB:B≤b)(hs:cs.length≤140737488355328):Own w B e sz (.slice (some ⟨b,0,none⟩) n n) cs:=by
 subst hn
 exact Own.ofBlk h hc hB hs
theorem nil_of{α:Type}{f:α→Value}{k:Option Nat}{sz:Nat}{v:Value}{l:List α}(h:Sl w B k sz v (l.map f))(hn:nilB v=true):l=[]:=by
 have h1:=h.len
 have h2:=h.wf
 match v,hn,h1,h2 with
 |.slice none n c,_,h1,h2=>
  obtain rfl:n=0:=h2
  rw[List.length_map] at h1
  exact List.eq_nil_of_length_eq_zero h1.symm
theorem worldHosts(hB:B≤w.heap.size)(hx0:WorldR w B hv rv x)(hlen:x.hosts.length≤1000000):CallsV Tryz.prog 134 #[.agg #[hv,rv]] w λv w'=>Ext w w'∧OwnH w' w.heap.size v x.hosts:=by
 have⟨hn,hx⟩:=bg0 w
 have hx':=hx0.sk hB
 have hX:=hx'.2.2.2.2
 (refine callsV_of Tryz.func134 rfl KR KR ?_;rw[Tryz.results134])
 (repeat' first|(with_reducible first|exact⟨⟩|(refine gB ?_;intros)|refine gT ?_ ?_)|refine gs ?_|refine sx ?_)
 refine mk_own_k (z:=.agg #[.int .u8 0,.int .i64 0]) rfl (by decide) (by decide) hlen λb1 w1 n1 hb1 s1 nw1=>?_
 have k1:=hb1.bk
 (repeat' first|(with_reducible first|exact⟨⟩|(refine gB ?_;intros)|refine gT ?_ ?_)|refine gs ?_|refine sx ?_)
 refine copyAll_k (e:=82) (sz:=2) (by_:=16) (c:=stateC) KR (by decide) (k1.2.1 _ FR) (by rw[flat_len (k:=2) _ (by intro c hc;rw[List.eq_of_mem_replicate hc];rfl)];simp) rfl (WorldR.h (hX _ FR)) (λ_=>rfl) stateC_one λw2 n2 hb2 s2 c2=>?_
 have k2:=hb2.bk
 clear k1
 (repeat' first|(with_reducible first|exact⟨⟩|(refine gB ?_;intros)|refine gT ?_ ?_)|refine gs ?_|refine sx ?_)
 exact Own.ofBlkN (by simp) (k2.2.1 _ FR) (by intro c hc;obtain⟨y,_,rfl⟩:=List.mem_map.1 hc;rfl) FR (by simp;omega)
theorem slicesCloneP{v:Value}{l:List ReplicaD}(hB:B≤w.heap.size)(hv:Sl w B (some 2) 2 v (l.map replicaV))(hlen:l.length≤1000000):CallsV Tryz.prog 42 #[v] w λv w'=>Ext w w'∧OwnP w' w.heap.size v l:=by
 have⟨hn,hx⟩:=bg0 w
 have hv':=hv.k hB
 (refine callsV_of Tryz.func42 rfl KR KR ?_;rw[Tryz.results42])
 (repeat' first|(with_reducible first|exact⟨⟩|(refine gB ?_;intros)|refine gT ?_ ?_)|refine gs ?_|refine sx ?_)
 ·rw[nil_of hv (by assumption)]
  exact Own.nil _ _ _ _
 ·rename_i w1 n1 k1 s1 nw1 sl1
  refine appendAll_k (e:=98) (sz:=2) (by_:=16) (z:=.agg #[.int .i64 0,.int .i64 0]) (B:=w.heap.size) (l:=([]:List ReplicaD)) (r:=l) (c:=replC) KR KR rfl (by decide) (by decide) (Own.ofBlkN (by simp) (k1.2.1 _ FR) (by simp) FR (by simp)) (hv'.2.2.2.2.2.2.1 _ FR) (λ_=>rfl) replC_one (by simp;omega) FR λv2 w2 n2 s2 hown=>?_
  have o2:=hown.o
  (repeat' first|(with_reducible first|exact⟨⟩|(refine gB ?_;intros)|refine gT ?_ ?_)|refine gs ?_|refine sx ?_)
  exact o2.1 _ FR
end
end Go.Proofs.YtphciegaokdolaaGreatDoor
