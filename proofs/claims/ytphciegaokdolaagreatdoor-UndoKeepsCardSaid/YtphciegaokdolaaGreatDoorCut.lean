/- Own rows: cut at their end, cleared behind a place; loops that begin later. -/
import Derived.Test.YtphciegaokdolaaGreatDoorStart13
import Derived.Lib.Overlaps
import Derived.Laws.Externs
namespace Go.Proofs.YtphciegaokdolaaGreatDoor
set_option linter.unusedSimpArgs false
set_option linter.unusedVariables false
open Go Go.RowKit
set_option maxRecDepth 100000
set_option linter.unusedSectionVars false
set_option maxHeartbeats 1000000
theorem sxCut1{p q:Prop}(hq:q)(h:p=q:=by first|(simp(maxDischargeDepth:=3) only[↓X,↓Y,↓Q,S1,↓reduceIte,Nat.reduceEqDiff,Nat.reduceAdd,Int.reduceLT,Int.reduceLE,Int.reduceNeg,Int.reduceBEq,Int.reduceBNe,Int.reduceEq,Nat.reduceLeDiff,Nat.reduceMul,Nat.reduceLT, *,replicaV];try exact rfl)|(simp(singlePass:=true) (maxDischargeDepth:=99) only[*,S2,Nat.reduceLT,replicaV];try exact rfl)):p:=h▸hq
theorem loop_f{P:Program}{n:Nat}{c:Code}{Q:Exit→Fr→World→Prop}{g:Fr}{w:World}(s N:Nat)(I:Fr→Nat→Fr→World→Prop)(hd:dstsOk n c=true)(hs:s≤N)(h0:I g s g w)
 (more:∀k m g' w',k+m=N→k<N→Now w'→I g k g' w'→wpx P n c (thenX (nextG N (I g) m) Q) g' w')
 (last:∀g' w',Now w'→I g N g' w'→wpx P n c (thenX (nextG N (I g) 0) Q) g' w'):loopX P n c Q g w:=by
 refine loopX_intro (λm g' w'=>∃k,k+m=N∧I g k g' w') (N - s) hd ⟨s,by omega,h0⟩ ?_
 rintro m g' w' ⟨k,hk,hI⟩
 rcases Nat.lt_or_ge k N with hlt|hge
 ·exact more k m g' w' hk hlt trivial hI
 ·have:k=N:=by omega
  subst this
  obtain rfl:m=0:=by omega
  exact last g' w' trivial hI
section
variable{w:World}{B e sz:Nat}{v:Value}{cs:List (List Value)}
abbrev OwnL(v:Value)(n:Nat):Prop:=lenN v=n∧lenN v≤capN v∧capN v≤9223372036854775807
theorem Own.l(h:Own w B e sz v cs):OwnL v cs.length:=by
 rcases h.1.2 with ⟨rfl,hn⟩|⟨g,cap,cur,rfl,hb,hg,hc1,hc2,hsz,htk⟩
 ·exact⟨hn.symm,Nat.le_refl _,by simp[capN]⟩
 ·exact⟨rfl,hc1,hc2⟩
theorem own_cut(h:Own w B e sz v cs){n:Nat}(hn:n≤cs.length):Own w B e sz (cutV sz v 0 n (capN v)) (cs.take n):=by
 have hl:(cs.take n).length=n:=by rw[List.length_take];omega
 have hall:∀c∈cs.take n,c.length=sz:=λc hc=>h.each c (List.mem_of_mem_take hc)
 refine⟨⟨by rw[flat_len _ hall],?_⟩,hall,Nat.le_trans (by rw[hl];exact hn) h.small⟩
 rcases h.1.2 with ⟨rfl,hz⟩|⟨g,cap,cur,rfl,hb,hg,hc1,hc2,hsz,htk⟩
 ·left
  have:n=0:=by omega
  subst this
  exact⟨rfl,by simp⟩
 ·right
  refine⟨g,cap,cur,?_,hb,hg,by omega,hc2,hsz,?_⟩
  ·rw[hl]
   simp only[cutV,capN,Nat.sub_zero,Nat.zero_mul,Option.map_some]
   split<;>rfl
  ·rw[hl,←flat_take cs n h.each,←htk,List.take_take,Nat.min_eq_left (Nat.mul_le_mul_right _ hn)]
theorem zc_list(z:Array Value)(n:Nat):(Builtin.zeroCells z n).toList.length=n * z.size:=by simp[Builtin.zeroCells]
theorem own_clear{t ty n by_ N:Nat}{z:Value}{f:Value→World→Prop}(hsl:slOf Tryz.prog t=some (e,sz,by_))(hz:zeroElt Tryz.prog t=some z)(hzs:z.cells.size=sz)(hz1:z.cells.toList.all (λu=>u.oneCell')=true)(hown:Own w B e sz v cs)(hn:n≤cs.length)(hB:B≤w.heap.size)(hN:N=lenN v)
 (h:∀w',Now w'→Own w' B e sz (cutV sz v 0 n (capN v)) (cs.take n)→Below B w w'→f (.tuple #[]) w'):clearX Tryz.prog t ty (cutV sz v n N (capN v)) w f:=by
 subst hN
 obtain⟨i,hu,hi,hs,hby⟩:=slOf_parts hsl
 have hz':i.zero=some z:=by
  unfold zeroElt at hz
  rw[hsl] at hz
  simpa [zeroOf,hi] using hz
 have hcut:=own_cut hown hn
 rcases hown.1.2 with ⟨rfl,hn0⟩|⟨g,cap,cur,rfl,hb,hg,hc1,hc2,hsz,htk⟩
 ·have hn:n=0:=by omega
  subst hn
  exact runsV_ok (w':=w) (v:=.tuple #[]) (by simp[Builtin.clear_,cutV,run_underlying hu,capN]) (h w trivial hcut (Below.refl _ _))
 ·by_cases e0:cs.length - n=0
  ·exact runsV_ok (w':=w) (v:=.tuple #[]) (by by_cases hc:cap=n<;>simp[Builtin.clear_,cutV,lenN,capN,e0,hc,run_underlying hu]) (h w trivial hcut (Below.refl _ _))
  ·have hne:¬cap=n:=by omega
   have hle:cs.length * sz≤cap * sz:=Nat.mul_le_mul_right _ hc1
   have hlen:n * sz+(cs.length - n) * sz=cs.length * sz:=by rw[←Nat.add_mul];congr 1;omega
   have hzl:=zc_list z.cells (cs.length - n)
   rw[hzs] at hzl
   have hst:=run_storeCells_at Tryz.prog g (n * sz) e (Builtin.zeroCells z.cells (cs.length - n)).toList 0 cur w hg (by simp only[Nat.add_zero,hzl];omega) (λu hu=>by
    have h9:=List.all_eq_true.1 hz1
    rw[Builtin.zeroCells,Array.toList_map,List.mem_map] at hu
    obtain⟨j,hj,rfl⟩:=hu
    rcases Nat.lt_or_ge (j % z.cells.size) z.cells.size with hlt|hge
    ·rw[getElem!_pos z.cells _ hlt]
     exact h9 _ (by simp)
    ·exact absurd hge (by
      have:0<z.cells.size:=by
       rcases Nat.eq_zero_or_pos z.cells.size with h0|h0
       ·rw[h0] at hj;simp at hj
       ·exact h0
      have:=Nat.mod_lt j this
      omega))
   simp only[Nat.add_zero,hzl] at hst
   have hrun:(Builtin.clear_ #[t] ty #[cutV sz (.slice (some ⟨g,0,none⟩) cs.length cap) n cs.length cap]).run Tryz.prog w=.ok (.tuple #[]) (w.setRow g (cur.toList.take (n * sz)++(Builtin.zeroCells z.cells (cs.length - n)).toList++cur.toList.drop (n * sz+(cs.length - n) * sz)).toArray):=by
    have h8:∃m,cs.length - n=m+1:=⟨cs.length - n - 1,by omega⟩
    obtain⟨m,hm⟩:=h8
    simp only[cutV,hne,if_false,Option.map_some,add_none,Nat.zero_add]
    rw[hm] at hst ⊢
    simp[Builtin.clear_,run_underlying hu,zeroValue,typeInfo,hi,hz']
    rw[hst]
    simp[Result.andThen]
   refine runsV_ok hrun (h _ trivial ?_ ?_)
   ·have hl:(cs.take n).length=n:=by rw[List.length_take];omega
    refine⟨⟨hcut.1.1,.inr ⟨g,cap,_,?_,hb,setRow_heap w g cur _ e _ hg,by omega,hc2,?_,?_⟩⟩,hcut.each,hcut.small⟩
    ·rw[hl]
     simp only[cutV,capN,Nat.sub_zero,Nat.zero_mul,Option.map_some]
     split<;>rfl
    ·simp only[List.size_toArray,List.length_append,List.length_take,List.length_drop,Array.length_toList,hzl]
     omega
    ·have hnc:n * sz≤cap * sz:=Nat.mul_le_mul_right _ (by omega)
     rw[hl,List.toList_toArray,List.append_assoc,List.take_append_of_le_length (by rw[List.length_take,Array.length_toList];omega),List.take_take,Nat.min_self,←flat_take cs n hown.each,←htk,List.take_take,Nat.min_eq_left (Nat.mul_le_mul_right _ hn)]
   ·exact(chg_row w g _).below hb hB
end
theorem filter_split{α:Type}(q:α→Bool)(l:List α){k:Nat}(h:k<l.length):(l.take (k+1)).filter (λx=>!q x)=(l.take k).filter (λx=>!q x)++if q l[k]=true then[] else[l[k]]:=by
 rw[List.take_succ_eq_append_getElem h,List.filter_append]
 cases e:q l[k]<;>simp[e]
theorem fidx_split{α:Type}(q:α→Bool)(l:List α):(fidx q l=-1∧∀x∈l,q x=false)∨∃i,∃h:i<l.length,fidx q l=(i:Int)∧q l[i]=true∧∀x∈l.take i,q x=false:=by
 cases hf:l.findIdx? q with
 |none=>
  left
  rw[List.findIdx?_eq_none_iff] at hf
  exact⟨by simp[fidx,List.findIdx?_eq_none_iff.2 hf],hf⟩
 |some i=>
  right
  have hf':=hf
  rw[List.findIdx?_eq_some_iff_getElem] at hf
  obtain⟨hi,hp,hn⟩:=hf
  refine⟨i,hi,by simp[fidx,hf'],hp,λx hx=>?_⟩
  obtain⟨j,hj,rfl⟩:=List.getElem_of_mem hx
  rw[List.length_take] at hj
  rw[List.getElem_take]
  simpa using hn j (by omega)
theorem call_b{P:Program}{w:World}{B:Nat}{f:FuncId}{args:Array Value}{Φ:Value→World→Prop}{K:Value→World→Prop}(h:CallsV P f args w λv w'=>Below B w w'∧Φ v w')(hk:∀v w',Now w'→Sa B w w'→Φ v w'→K v w'):CallsV P f args w K:=
 CallsV.mono h λv w' ⟨hx,hv⟩=>hk v w' trivial (sa_of hx) hv
section
variable{w:World}{B:Nat}
theorem deleteFuncP{v:Value}{l:List ReplicaD}{cl:Nat}{caps:List Value}{q:ReplicaD→Bool}(hB:B≤w.heap.size)(hown:OwnP w B v l)(hc:callable Tryz.prog cl=true)
 (hf:∀x w',Bl B w w'→Ret Tryz.prog cl (replicaV x::caps).toArray w' (.bool (q x))):CallsV Tryz.prog 136 #[v,.func (.func cl) #[] caps.toArray] w λv' w'=>Below B w w'∧OwnP w' B v' (l.filter λx=>!q x):=by
 have⟨hn,hx⟩:=bg0 w
 have hs0:=hown.slN (f:=replC)
 have hl:=hown.l
 rw[List.length_map] at hl
 have hb0:Bl B w w:=Bl.refl hB
 have hsm:l.length≤140737488355328:=by simpa using hown.small
 have hsm:Hid _:=hsm
 have hi:Ret Tryz.prog 171 #[v,.func (.func cl) #[] caps.toArray] w (.int .i64 (fidx q l)):=indexFunc_Replica (Nat.le_refl _) hs0 hc (λx _ w' hx'=>hf x w' (hb0.ext hx'))
 (refine callsV_of Tryz.func136 rfl KR KR ?_;rw[Tryz.results136])
 rcases fidx_split q l with ⟨e,hn⟩|⟨i,hil,e,hqi,hbef⟩
 ·rw[e] at hi
  (repeat' first|(with_reducible first|exact⟨⟩|(refine gB ?_;intros)|refine gT ?_ ?_)|refine gs ?_|((with_reducible refine at_f 171 ?_);refine ret_k (hi) λ_ _ _=>?_)|refine sx ?_)
  ·rename_i w1 n1 s1
   have hall:(l.filter λx=>!q x)=l:=List.filter_eq_self.2 λx hx'=>by simp[hn x hx']
   rw[hall]
   have o:=hown.o
   have hbl1:Bl B w w1:=FR
   exact⟨hbl1.2,o.1 _ FR⟩
 ·rw[e] at hi
  (repeat' first|(with_reducible first|exact⟨⟩|(refine gB ?_;intros)|refine gT ?_ ?_)|refine gs ?_|((with_reducible refine at_f 171 ?_);refine ret_k (hi) λ_ _ _=>?_)|refine sx ?_)
  ·exfalso;omega
  rename_i w1 n1 s1 e1 e2
  have o:=hown.o
  have hbl1:Bl B w w1:=FR
  have hown1:OwnP w1 B v l:=o.1 _ FR
  have hw1:IntKind.i64.wrap ((i:Int)+1)=((i+1:Nat):Int):=by
   have:=hsm.out
   rw[wrap_i64_id]<;>omega
  clear o e1 e2
  refine loop_f (i+1) l.length (λg0 k g w'=>∃m0 mid,∃j:Nat,g 5=.int .i64 j∧g 6=.int .i64 k∧(g 0=g0 0∧g 1=g0 1)∧Bl B w w'∧j+(mid.length+1)=k∧((l.take k).filter λx=>!q x).length=j∧OwnP w' B v (((l.take k).filter λx=>!q x)++m0::mid++l.drop k)) KR hil ?_ ?_ ?_
  ·(repeat' first|(with_reducible first|exact⟨⟩|(refine gB ?_;intros)|refine gT ?_ ?_)|refine gs ?_|refine sx ?_)
   refine⟨l[i],[],i,rfl,rfl,?_⟩
   have h1:((l.take (i+1)).filter λx=>!q x)=l.take i:=by
    rw[filter_split q l hil,hqi]
    simp only[if_true,List.append_nil]
    exact List.filter_eq_self.2 λx hx'=>by simp[hbef x hx']
   rw[h1]
   refine⟨by rw[List.length_take];omega,?_⟩
   rw[show l.take i++l[i]::[]++l.drop (i+1)=l by simp]
   exact hown1
  ·rintro k m g wk hk hlt nk ⟨m0,mid,j,h5,h6,hf',hbl,hj,hkl,hownk⟩
   simp(maxDischargeDepth:=3) only[U,↓reduceIte,Nat.reduceEqDiff, *] at hf'
   have hsk:=(hownk.slN (f:=replC)).v (Nat.le_refl _)
   have ok:=hownk.o
   have hBk:B≤wk.heap.size:=hbl.size
   have hlen:(((l.take k).filter λx=>!q x)++m0::mid++l.drop k).length=l.length:=by
    simp only[List.length_append,List.length_cons,List.length_drop,hkl]
    omega
   have hat:(((l.take k).filter λx=>!q x)++m0::mid++l.drop k)[k]'(by omega)=l[k]:=by
    rw[List.getElem_append_right (by simp only[List.length_append,List.length_cons,hkl];omega)]
    simp only[List.getElem_drop,List.length_append,List.length_cons,hkl]
    congr 1
    omega
   obtain⟨f1,f2,f3,f4,f5,f6,f7,f8⟩:=hsk
   rw[hlen] at f3
   have hrd:∀w',Vp v wk w'→rdv (some 2) w' (elemAt v 2 k)=some (replicaV l[k]):=λw' hv=>by
    have:=f6 w' hv k (by omega)
    rw[hat] at this
    exact this
   clear f6 f7 hat
   have hwk:IntKind.i64.wrap ((k:Int)+1)=((k+1:Nat):Int):=by
    have:=hsm.out
    rw[wrap_i64_id]<;>omega
   have hwj:IntKind.i64.wrap ((j:Int)+1)=((j+1:Nat):Int):=by
    have:=hsm.out
    rw[wrap_i64_id]<;>omega
   (repeat' first|(with_reducible first|exact⟨⟩|(refine gB ?_;intros)|refine gT ?_ ?_)|refine gs ?_|simp(maxDischargeDepth:=3) only[↓X,↓Y,↓Q,S1,↓reduceIte,Nat.reduceEqDiff,Nat.reduceAdd,Int.reduceLT,Int.reduceLE,Int.reduceNeg,Int.reduceBEq,Int.reduceBNe,Int.reduceEq,Nat.reduceLeDiff,Nat.reduceMul,Nat.reduceLT, *,replicaV,hc]|simp(singlePass:=true) (maxDischargeDepth:=99) only[*,S2,Nat.reduceLT,replicaV,hc])
   rename_i b2 w2 n2 k2 s2 q2 w3 n3 k3 s3
   refine ret_k (hf l[k] _ FR) λw4 n4 s4=>?_
   have hsp:=filter_split q l hlt
   have hdr:l.drop k=l[k]::l.drop (k+1):=List.drop_eq_getElem_cons hlt
   cases hq:q l[k] with
   |true=>
    rw[hq] at hsp
    simp only[if_true,List.append_nil] at hsp
    (repeat' first|(with_reducible first|exact⟨⟩|(refine gB ?_;intros)|refine gT ?_ ?_)|refine gs ?_|refine sx ?_)
    refine next_g hk hlt ?_
    (repeat' first|(with_reducible first|exact⟨⟩|(refine gB ?_;intros)|refine gT ?_ ?_)|refine gs ?_|refine sx ?_)
    refine⟨m0,mid++[l[k]],j,rfl,?_,?_⟩
    ·simp;omega
    ·have:=ok.1 w4 FR
     rw[hdr] at this
     simpa [OwnP] using this
   |false=>
    rw[hq] at hsp
    simp only[Bool.false_eq_true,if_false] at hsp
    have hw4:Bl B w w4:=FR
    have hbp:Bp v wk w4:=FR
    have hv4:OwnP w4 B v (((l.take k).filter λx=>!q x)++m0::mid++l.drop k):=ok.1 _ hbp
    have hset:((((l.take k).filter λx=>!q x)++m0::mid++l.drop k).map replC).set j (replC l[k])=(((l.take k).filter λx=>!q x)++l[k]::mid++l.drop k).map replC:=by
     rw[←List.map_set]
     congr 1
     rw[List.append_assoc,List.set_append_right _ _ (by omega),hkl,Nat.sub_self]
     simp
    (repeat' first|(with_reducible first|exact⟨⟩|(refine gB ?_;intros)|refine gT ?_ ?_)|refine gs ?_|refine sxCut1 ?_)
    refine own_set (i:=j) (vs:=replC l[k]) KR (by decide) hv4 (by simp only[List.length_map,hlen];omega) rfl (replC_one _) λb9 w10 n10 e9 hb9 hl9 hown9 s10 c10=>?_
    rw[hset] at hown9
    have hw10:Bl B w w10:=hw4.chg c10 hb9
    clear e9
    (repeat' first|(with_reducible first|exact⟨⟩|(refine gB ?_;intros)|refine gT ?_ ?_)|refine gs ?_|refine sx ?_)
    refine next_g hk hlt ?_
    (repeat' first|(with_reducible first|exact⟨⟩|(refine gB ?_;intros)|refine gT ?_ ?_)|refine gs ?_|refine sx ?_)
    rw[List.append_assoc,hdr] at hown9
    cases mid with
    |nil=>
     refine⟨l[k],[],j+1,rfl,by simpa using hj,by simp[hkl],?_⟩
     simpa [OwnP] using hown9
    |cons m1 mid'=>
     refine⟨m1,mid'++[l[k]],j+1,rfl,by simp at hj ⊢;omega,by simp[hkl],?_⟩
     simpa [OwnP] using hown9
  ·rintro g wk nk ⟨m0,mid,j,h5,h6,hf',hbl,hj,hkl,hownk⟩
   simp(maxDischargeDepth:=3) only[U,↓reduceIte,Nat.reduceEqDiff, *] at hf'
   rw[take_all'] at hkl hownk
   have hlk:=hownk.l
   rw[List.length_map] at hlk
   have hlen:((l.filter λx=>!q x)++m0::mid++l.drop l.length).length=l.length:=by
    simp only[List.length_append,List.length_cons,List.length_drop,hkl]
    omega
   rw[hlen] at hlk
   have hsl:=hownk.o.2.2.2.2.2.1
   have hjl:j≤l.length:=by omega
   have hnlt:¬l.length<l.length:=by omega
   have hjc:j≤capN v:=by omega
   (repeat' first|(with_reducible first|exact⟨⟩|(refine gB ?_;intros)|refine gT ?_ ?_)|refine gs ?_|simp(maxDischargeDepth:=3) only[↓X,↓Y,↓Q,S1,↓reduceIte,Nat.reduceEqDiff,Nat.reduceAdd,Int.reduceLT,Int.reduceLE,Int.reduceNeg,Int.reduceBEq,Int.reduceBNe,Int.reduceEq,Nat.reduceLeDiff,Nat.reduceMul,Nat.reduceLT, *,hlk.1]|simp(singlePass:=true) (maxDischargeDepth:=99) only[*,S2,Nat.reduceLT,hlk.1])
   simp only[sliceX,Int.toNat_natCast]
   refine need ⟨hsl,by omega,by omega,by omega⟩ ?_
   (repeat' first|(with_reducible first|exact⟨⟩|(refine gB ?_;intros)|refine gT ?_ ?_)|refine gs ?_|refine sx ?_)
   refine own_clear (n:=j) (by_:=16) (z:=.agg #[.int .i64 0,.int .i64 0]) KR KR rfl (by decide) hownk (by simp only[List.length_map,hlen];omega) hbl.size hlk.1.symm λw9 n9 hown9 hb9=>?_
   (repeat' first|(with_reducible first|exact⟨⟩|(refine gB ?_;intros)|refine gT ?_ ?_)|refine gs ?_|refine sx ?_)
   simp only[sliceX,Int.toNat_natCast]
   refine need ⟨hsl,by omega,by omega⟩ ?_
   (repeat' first|(with_reducible first|exact⟨⟩|(refine gB ?_;intros)|refine gT ?_ ?_)|refine gs ?_|refine sx ?_)
   refine⟨hbl.2.trans hb9,?_⟩
   rw[List.map_append,List.map_append,List.append_assoc,List.take_left' (by rw[List.length_map];exact hkl)] at hown9
   exact hown9
end
section
variable{w:World}{B B':Nat}{hv rv hv' rv':Value}{x y:WorldD}
theorem worldStop1{r a:ReplicaD}{b:Nat}(hb:Blk w b 98 (replC r)):Ret Tryz.prog 137 #[replicaV a,.pointer (some ⟨b,0,none⟩)] w (.bool (decide (a=r))):=by
 have⟨hn,hx⟩:=bg0 w
 have k:=hb.bk
 have ho:=hb.lt
 (refine callsV_of Tryz.func137 rfl KR KR ?_;rw[Tryz.results137])
 (repeat' first|(with_reducible first|exact⟨⟩|(refine gB ?_;intros)|refine gT ?_ ?_)|refine gs ?_|simp(maxDischargeDepth:=3) only[↓X,↓Y,↓Q,S1,↓reduceIte,Nat.reduceEqDiff,Nat.reduceAdd,Int.reduceLT,Int.reduceLE,Int.reduceNeg,Int.reduceBEq,Int.reduceBNe,Int.reduceEq,Nat.reduceLeDiff,Nat.reduceMul,Nat.reduceLT, *,replicaV,replC,repl_eq]|simp(singlePass:=true) (maxDischargeDepth:=99) only[*,S2,Nat.reduceLT,replicaV,replC,repl_eq])
theorem worldStop{r:ReplicaD}(hB:B≤w.heap.size)(hx0:WorldR w B hv rv x)(hl1:x.hosts.length≤1000000)(hl2:x.replicas.length≤1000000):CallsV Tryz.prog 81 #[.agg #[hv,rv],replicaV r] w λv w'=>Ext w w'∧∃u,v=.tuple #[u,intV (stopE x r)]∧OwnW w.heap.size u w' (stopW x r):=by
 have⟨hn,hx⟩:=bg0 w
 have hx':=hx0.sk hB
 have hX:=hx'.2.2.2.2
 have hl1:Hid _:=hl1
 have hl2:Hid _:=hl2
 have hso:=λw' (hb:Bl B w w') (hB':B≤w'.heap.size)=>worldSorted hB' (WorldR.r (hX w' hb))
 have hha:=λw' (hb:Bl B w w') (hB':B≤w'.heap.size)=>worldHas (r:=r) hB' (hX w' hb)
 have h1:sortedB x.replicas=false→Hid (stopE x r=1∧stopW x r=noW):=λh=>⟨by simp[stopE,h],by simp[stopW,stopE,h]⟩
 have h2:sortedB x.replicas=true→hasB x.replicas r=false→Hid (stopE x r=7∧stopW x r=noW):=λh h'=>⟨by simp[stopE,h,h'],by simp[stopW,stopE,h,h']⟩
 have h3:sortedB x.replicas=true→hasB x.replicas r=true→Hid (stopE x r=0∧stopW x r=⟨x.hosts,stopF r x.replicas⟩):=λh h'=>⟨by simp[stopE,h,h'],by simp[stopW,stopE,h,h']⟩
 generalize sortedB x.replicas=sb at *
 generalize hasB x.replicas r=hb at *
 generalize stopE x r=e at *
 generalize stopW x r=W at *
 have h1:Hid _:=h1
 have h2:Hid _:=h2
 have h3:Hid _:=h3
 (refine callsV_of Tryz.func81 rfl KR KR ?_;rw[Tryz.results81])
 cases sb
 ·obtain⟨rfl,rfl⟩:=(h1.out rfl).out
  clear h1 h2 h3
  (repeat' first|(with_reducible first|exact⟨⟩|(refine gB ?_;intros)|refine gT ?_ ?_)|refine gs ?_|((with_reducible refine at_f 104 ?_);refine ret_k (hso _ FR FR) λ_ _ _=>?_)|((with_reducible refine at_f 131 ?_);refine ret_k (hha _ FR FR) λ_ _ _=>?_)|refine sxCut1 ?_)
  all_goals exact⟨_,rfl,OwnW.none _ _⟩
 ·cases hb
  ·obtain⟨rfl,rfl⟩:=(h2.out rfl rfl).out
   clear h1 h2 h3
   (repeat' first|(with_reducible first|exact⟨⟩|(refine gB ?_;intros)|refine gT ?_ ?_)|refine gs ?_|((with_reducible refine at_f 104 ?_);refine ret_k (hso _ FR FR) λ_ _ _=>?_)|((with_reducible refine at_f 131 ?_);refine ret_k (hha _ FR FR) λ_ _ _=>?_)|refine sxCut1 ?_)
   all_goals exact⟨_,rfl,OwnW.none _ _⟩
  ·obtain⟨rfl,rfl⟩:=(h3.out rfl rfl).out
   clear h1 h2 h3
   (repeat' first|(with_reducible first|exact⟨⟩|(refine gB ?_;intros)|refine gT ?_ ?_)|refine gs ?_|((with_reducible refine at_f 104 ?_);refine ret_k (hso _ FR FR) λ_ _ _=>?_)|((with_reducible refine at_f 131 ?_);refine ret_k (hha _ FR FR) λ_ _ _=>?_)|refine sxCut1 ?_)
   refine call_k (slicesCloneP (B:=B) FR (WorldR.r (hX _ FR)) hl2.out) ?_
   intro c wc nc sc hown
   have oc:=hown.o
   (repeat' first|(with_reducible first|exact⟨⟩|(refine gB ?_;intros)|refine gT ?_ ?_)|refine gs ?_|refine sx ?_)
   rename_i b2 w2 n2 k2 s2 q2 b3 w3 n3 k3 s3 q3 b4 w4 n4 k4 s4 q4 w5 n5 s5 w6 n6 s6
   refine call_b (deleteFuncP (cl:=137) (caps:=[.pointer (some ⟨b3,0,none⟩)]) (q:=λa=>decide (a=r)) FR hown KR λa w' hb'=>worldStop1 (by have sa':=sa_of hb'.2;exact k3.2.1 _ FR)) ?_
   intro d wd nd sd hownd
   have od:=hownd.o
   (repeat' first|(with_reducible first|exact⟨⟩|(refine gB ?_;intros)|refine gT ?_ ?_)|refine gs ?_|refine sx ?_)
   refine call_k (worldHosts (B:=B) FR (hX _ FR) hl1.out) ?_
   intro e we ne se howne
   have oe:=howne.o
   (repeat' first|(with_reducible first|exact⟨⟩|(refine gB ?_;intros)|refine gT ?_ ?_)|refine gs ?_|refine sx ?_)
   exact⟨_,rfl,_,_,rfl,Own.more (oe.1 _ FR) FR,Own.more (od.1 _ FR) FR⟩
end
def bsB(l:List ReplicaD)(r:ReplicaD)(p:Nat):Bool:=match l[p]? with
 |some a=>decide (ordI a r=0)
 |none=>false
section
variable{w:World}{B:Nat}
theorem bsearchP{v:Value}{l:List ReplicaD}{r:ReplicaD}{p:Nat}(hB:B≤w.heap.size)(hv:Sl w B (some 2) 2 v (l.map replicaV))(hp:p≤l.length)(h1:∀i (h:i<l.length),i<p→ordI l[i] r<0)(h2:∀i (h:i<l.length),p≤i→¬ordI l[i] r<0)(hsm:l.length≤1000000) :
 Ret Tryz.prog 132 #[v,replicaV r,.func (.func 133) #[] #[]] w (.tuple #[.int .i64 p,.bool (bsB l r p)]):=by
 have⟨hn,hx⟩:=bg0 w
 have hk:=hv.k hB
 have hsm:Hid _:=hsm
 have hp:Hid _:=hp
 have h1:Hid _:=h1
 have h2:Hid _:=h2
 (refine callsV_of Tryz.func132 rfl KR KR ?_;rw[Tryz.results132])
 (repeat' first|(with_reducible first|exact⟨⟩|(refine gB ?_;intros)|refine gT ?_ ?_)|refine gs ?_|refine sxCut1 ?_)
 rename_i b2 w2 n2 k2 s2 q2
 refine loopX_intro (λm g w'=>∃i j:Nat,j - i=m∧i≤p∧p≤j∧j≤l.length∧g 9=.int .i64 i∧g 10=.int .i64 j∧(g 0=v∧g 2=.func (.func 133) #[] #[]∧g 4=.pointer (some ⟨b2,0,none⟩)∧g 8=.int .i64 l.length)∧Ext w2 w') l.length KR ?_ ?_
 ·refine⟨0,l.length,rfl,Nat.zero_le _,hp.out,Nat.le_refl _,?_⟩
  (repeat' first|(with_reducible first|exact⟨⟩|(refine gB ?_;intros)|refine gT ?_ ?_)|refine gs ?_|refine sx ?_)
  exact Ext.refl w2
 ·rintro m g wk ⟨i,j,hm,hi,hj,hjl,h9,h10,hf,hx2⟩
  have sk:=hx2.st
  have nk:Now wk:=trivial
  have hb:=hsm.out
  rcases Nat.lt_or_ge i j with hlt|hge
  ·have a1:IntKind.i64.wrap ((i:Int)+(j:Int))=((i+j:Nat):Int):=by rw[wrap_i64_id]<;>omega
   have a2:IntKind.u64.wrap ((i+j:Nat):Int)=((i+j:Nat):Int):=by
    simp[IntKind.wrap,IntKind.bits,IntKind.signed];omega
   have a3:shrI .u64 ((i+j:Nat):Int) 1=(((i+j) / 2:Nat):Int):=by
    simp[shrI,IntKind.bits,Int.fdiv_eq_ediv_of_nonneg]
   have a4:IntKind.i64.wrap (((i+j) / 2:Nat):Int)=(((i+j) / 2:Nat):Int):=by rw[wrap_i64_id]<;>omega
   have a5:IntKind.i64.wrap ((((i+j) / 2:Nat):Int)+1)=(((i+j) / 2+1:Nat):Int):=by rw[wrap_i64_id]<;>omega
   generalize hh:(i+j) / 2=h at *
   have hhl:h<l.length:=by omega
   have hijm:i≤h∧h<j∧j - i=m∧i≤p∧p≤j∧j≤l.length:=⟨by omega,by omega,hm,hi,hj,hjl⟩
   have hijm:Hid _:=hijm
   clear hm hi hj hjl
   obtain⟨f0,f2,f4,f8⟩:=hf
   (repeat' first|((with_reducible refine wpd_at 5 ?_);refine wpd_tail 6 KR KR KR ?_)|(with_reducible first|exact⟨⟩|(refine gB ?_;intros)|refine gT ?_ ?_)|refine gs ?_|((with_reducible refine at_f 133 ?_);refine ret_k (worldOrder) λ_ _ _=>?_)|refine sxCut1 ?_)
   ·rename_i w3 n3 s3 w4 n4 s4 hc
    have hq:=hijm.out
    have hph:h<p:=by
     refine Nat.lt_of_not_le λhle=>h2.out h hhl hle hc
    refine⟨j - (h+1),by omega,h+1,j,rfl,by omega,by omega,by omega,?_⟩
    (repeat' first|(with_reducible first|exact⟨⟩|(refine gB ?_;intros)|refine gT ?_ ?_)|refine gs ?_|refine sx ?_)
   ·rename_i w3 n3 s3 w4 n4 s4 hc
    have hq:=hijm.out
    have hph:p≤h:=by
     refine Nat.le_of_not_lt λhle=>hc (h1.out h hhl hle)
    refine⟨h - i,by omega,i,h,rfl,by omega,by omega,by omega,?_⟩
    (repeat' first|(with_reducible first|exact⟨⟩|(refine gB ?_;intros)|refine gT ?_ ?_)|refine gs ?_|refine sx ?_)
  ·obtain⟨f0,f2,f4,f8⟩:=hf
   obtain rfl:i=p:=by omega
   obtain rfl:j=i:=by omega
   have hnl:¬j<j:=by omega
   clear hi hj hge
   rcases Nat.lt_or_ge j l.length with hlt|hge
   ·have hbs:bsB l r j=decide (ordI l[j] r=0):=by simp[bsB,hlt]
    rw[hbs]
    clear hbs hm
    (repeat' first|(with_reducible first|exact⟨⟩|(refine gB ?_;intros)|refine gT ?_ ?_)|refine gs ?_|((with_reducible refine at_q 133 ?_);refine qret_k (λ_ _ _=>worldOrder) ?_)|refine sxCut1 ?_)
    exact rfl
   ·have hbs:bsB l r j=false:=by simp[bsB,Nat.not_lt.2 hge]
    rw[hbs]
    have hjl2:¬j<l.length:=by omega
    clear hbs hm hge
    (repeat' first|(with_reducible first|exact⟨⟩|(refine gB ?_;intros)|refine gT ?_ ?_)|refine gs ?_|((with_reducible refine at_q 133 ?_);refine qret_k (λ_ _ _=>worldOrder) ?_)|refine sxCut1 ?_)
end
theorem ins_room{k i:Nat}{l:List (List Value)}{cur vs:List Value}(hl:∀c∈l,c.length=k)(hi:i<l.length)(hv:vs.length=k)(hc:cur.take (l.length * k)=l.flatten)(hcl:(l.length+1) * k≤cur.length)(cur1:List Value)(h1:cur1=cur.take ((i+1) * k)++(l.drop i).flatten++cur.drop ((i+1) * k+(l.drop i).flatten.length)) :
 (cur1.take (i * k)++vs++cur1.drop (i * k+vs.length)).take ((l.length+1) * k)=(l.take i++vs::l.drop i).flatten∧cur1.length=cur.length∧(cur1.take (i * k)++vs++cur1.drop (i * k+vs.length)).length=cur.length:=by
 have hd:(l.drop i).flatten.length=(l.length - i) * k:=by rw[flat_len _ (λc hc=>hl c (List.mem_of_mem_drop hc)),List.length_drop]
 have e0:(i+1) * k=i * k+k:=Nat.succ_mul ..
 have e1:(l.length+1) * k=i * k+k+(l.length - i) * k:=by
  rw[←Nat.succ_mul,←Nat.add_mul];congr 1;omega
 have hik:i * k≤l.length * k:=Nat.mul_le_mul_right _ (Nat.le_of_lt hi)
 have hlk:l.length * k≤(l.length+1) * k:=Nat.mul_le_mul_right _ (by omega)
 have ht:cur.take (i * k)=(l.take i).flatten:=by rw[←flat_take l i hl,←hc,List.take_take,Nat.min_eq_left hik]
 have hlen1:cur1.length=cur.length:=by
  rw[h1,List.length_append,List.length_append,List.length_take,List.length_drop,hd];omega
 have ht1:cur1.take (i * k)=(l.take i).flatten:=by
  rw[h1,List.append_assoc,List.take_append_of_le_length (by rw[List.length_take];omega),List.take_take,Nat.min_eq_left (by omega),ht]
 have hd1:cur1.drop (i * k+vs.length)=(l.drop i).flatten++cur.drop ((i+1) * k+(l.drop i).flatten.length):=by
  rw[h1,List.append_assoc,hv,←e0]
  exact List.drop_left' (by rw[List.length_take];omega)
 refine⟨?_,hlen1,?_⟩
 ·rw[ht1,hd1,List.flatten_append,List.flatten_cons,←List.append_assoc,←List.append_assoc]
  refine List.take_left' ?_
  rw[List.length_append,List.length_append,hv,hd,←ht,List.length_take]
  omega
 ·rw[List.length_append,List.length_append,List.length_take,List.length_drop,hlen1,hv];omega
theorem ins_grow{k i:Nat}{l:List (List Value)}{cur vs:List Value}(hl:∀c∈l,c.length=k)(hi:i<l.length)(hv:vs.length=k)(hc:cur.take (i * k)=(l.take i).flatten)(hcl:(l.length+1) * k≤cur.length)(cur1:List Value)(h1:cur1=cur.take (i * k)++vs++cur.drop (i * k+vs.length)) :
 (cur1.take ((i+1) * k)++(l.drop i).flatten++cur1.drop ((i+1) * k+(l.drop i).flatten.length)).take ((l.length+1) * k)=(l.take i++vs::l.drop i).flatten∧cur1.length=cur.length∧(cur1.take ((i+1) * k)++(l.drop i).flatten++cur1.drop ((i+1) * k+(l.drop i).flatten.length)).length=cur.length:=by
 have hd:(l.drop i).flatten.length=(l.length - i) * k:=by rw[flat_len _ (λc hc=>hl c (List.mem_of_mem_drop hc)),List.length_drop]
 have e0:(i+1) * k=i * k+k:=Nat.succ_mul ..
 have e1:(l.length+1) * k=i * k+k+(l.length - i) * k:=by
  rw[←Nat.succ_mul,←Nat.add_mul];congr 1;omega
 have hlen1:cur1.length=cur.length:=by
  rw[h1,List.length_append,List.length_append,List.length_take,List.length_drop,hv];omega
 have ht1:cur1.take ((i+1) * k)=(l.take i).flatten++vs:=by
  rw[h1,hc]
  refine List.take_left' ?_
  rw[List.length_append,hv,←hc,List.length_take]
  omega
 refine⟨?_,hlen1,?_⟩
 ·rw[ht1,List.flatten_append,List.flatten_cons,←List.append_assoc]
  refine List.take_left' ?_
  rw[List.length_append,List.length_append,hv,hd,←hc,List.length_take]
  omega
 ·rw[List.length_append,List.length_append,List.length_take,List.length_drop,hlen1,hd];omega
section
variable{w:World}{B e sz:Nat}{v:Value}
theorem own_of_blk{g cap n:Nat}{cs:List (List Value)}{cur:List Value}(hb:Blk w g e cur)(hn:n=cs.length)(hnc:n≤cap)(hcap:cap≤maxLen)(hcur:cur.length=cap * sz)(ht:cur.take (n * sz)=cs.flatten)(hall:∀c∈cs,c.length=sz)(hB:B≤g)(hs:cs.length≤140737488355328):Own w B e sz (.slice (some ⟨g,0,none⟩) n cap) cs:=by
 subst hn
 exact⟨⟨by rw[flat_len _ hall],.inr ⟨g,cap,cur.toArray,rfl,hB,hb,hnc,hcap,by simpa using hcur,by simpa using ht⟩⟩,hall,hs⟩
theorem cut_lo{g n c l:Nat}(h:l<c):cutV sz (.slice (some ⟨g,0,none⟩) n c) l n c=.slice (some ⟨g,l * sz,none⟩) (n - l) (c - l):=by
 have:¬c=l:=by omega
 simp only[cutV,if_neg this,Option.map_some,add_none,Nat.zero_add]
theorem cut_hi{g n c m:Nat}:cutV sz (.slice (some ⟨g,0,none⟩) n c) 0 m c=.slice (some ⟨g,0,none⟩) m c:=by
 by_cases h:c=0<;>simp[cutV,h,add_none]
theorem slice_lo{by_ g n c l:Nat}{f:Value→World→Prop}(h1:l≤n)(h2:n≤c)(h3:l<c)(h:f (.slice (some ⟨g,l * sz,none⟩) (n - l) (c - l)) w):sliceX (some (e,sz,by_)) (.slice (some ⟨g,0,none⟩) n c) (some (.int .i64 (l:Nat))) none none w f:=by
 simp only[sliceX,Int.toNat_natCast]
 refine need ⟨trivial,by omega,by simp only[lenN];omega,h2⟩ ?_
 show f (cutV sz _ l n c) w
 rw[cut_lo h3]
 exact h
theorem slice_hi{by_ g n c m:Nat}{f:Value→World→Prop}(h1:m≤c)(h:f (.slice (some ⟨g,0,none⟩) m c) w):sliceX (some (e,sz,by_)) (.slice (some ⟨g,0,none⟩) n c) none (some (.int .i64 (m:Nat))) none w f:=by
 simp only[sliceX,Int.toNat_natCast]
 refine need ⟨trivial,by omega,by simp only[capN];omega⟩ ?_
 show f (cutV sz _ 0 m c) w
 rw[cut_hi]
 exact h
theorem copyB_k{t ty by_ g o dLen dCap sLen sCap:Nat}{a:Addr}{cur cs:List Value}{k:Value→World→Prop}(hsl:slOf Tryz.prog t=some (e,sz,by_))(hb:Blk w g e cur)(hcs:∀j u,cs[j]? = some u→w.cell? (a.add j)=some u)(hn:cs.length=min sLen dLen * sz)(hfit:o+cs.length≤cur.length)(h1:∀u∈cs,u.oneCell'=true)
 (h:∀w',Now w'→Blk w' g e (cur.take o++cs++cur.drop (o+cs.length))→Sc w w' g→Cg g w w'→k (.int .i64 (min sLen dLen:Nat)) w'):copyX Tryz.prog t t ty (.slice (some ⟨g,o,none⟩) dLen dCap) (.slice (some a) sLen sCap) w k:=by
 obtain⟨i,hu,hi,hs,hby'⟩:=slOf_parts hsl
 have hr:=run_copy_rowN (P:=Tryz.prog) w t t ty e g o dLen dCap a sLen sCap sz i cur.toArray e cs hu hi hs hb hn hcs (by simpa using hfit) h1
 have hcg:=chg_row w g (cur.take o++cs++cur.drop (o+cs.length)).toArray
 exact runsV_ok hr (h _ trivial (setRow_heap w g _ _ e _ hb) hcg.sc hcg)
theorem append_zeros_k{t tn ty by_ sLen sCap n N:Nat}{k kn:IntKind}{z:Value}{b:Addr}{olds:List Value}{f:Value→World→Prop}(hsl:slOf Tryz.prog t=some (e,sz,by_))(hz:zeroElt Tryz.prog t=some z)(hzs:z.cells.size=sz)(hsz:0<sz)(hby:by_≤64)(htn:Tryz.prog.underlying tn=some (.int kn))
 (hlo:olds.length=sLen * sz) (holds:∀j u,olds[j]? = some u→w.cell? (b.add j)=some u) (hg:sCap<sLen+n) (hn0:0<n) (hN:N=sLen+n) (hsm:N≤1000000000000)
 (h:∀g c w' ZZ,Now w'→Bk w' g e (olds++ZZ)→Blk w' g e (olds++ZZ)→St w w'→Nw w g→N≤c→c≤maxLen→(olds++ZZ).length=c * sz→f (.slice (some ⟨g,0,none⟩) N c) w'):appX Tryz.prog t tn ty (.slice (some b) sLen sCap) (.int k n) w f:=by
 subst hN
 obtain⟨i,hu,hi,hs,hby'⟩:=slOf_parts hsl
 have hz':i.zero=some z:=by
  unfold zeroElt at hz
  rw[hsl] at hz
  simpa [zeroOf,hi] using hz
 subst hs
 have hbig:(sLen+n) * i.bytes≤140737488355328:=by
  have:(sLen+n) * i.bytes≤1000000000000 * 64:=Nat.mul_le_mul hsm (by omega)
  omega
 have hnb:n * i.bytes≤1000000000000 * 64:=Nat.mul_le_mul (by omega) (by omega)
 have hfit:=growslice_fits hg hbig
 have hn:¬(sLen+n≤sCap):=by omega
 have hw:IntKind.i64.wrap (n:Int)=n:=by rw[IntKind.wrap_i64];omega
 have h63':¬(9223372036854775807<((sLen:Int)+(n:Int))):=by omega
 have h48':¬(281474976710656<Builtin.nextslicecap (sLen+n) sCap * i.bytes):=by omega
 have h48i:¬(281474976710656<(n:Int) * (i.bytes:Int)):=by
  rw[←Int.natCast_mul]
  omega
 have hneg:¬((n:Int)<0):=by omega
 have hns:¬(n * i.size=0):=Nat.mul_ne_zero (by omega) (by omega)
 have hf:=run_firstCells_some (P:=Tryz.prog) w.drew i.size sLen b sLen sCap olds hlo (by simpa using holds)
 have hr:(Builtin.append_ #[t,tn] ty #[.slice (some b) sLen sCap,.int k n]).run Tryz.prog w=.ok (.slice (some ⟨w.heap.size,0,none⟩) (sLen+n) (grownCap w (sLen+n) sCap e)) (w.drew.alloc (.cells (olds.toArray++Builtin.zeroCells z.cells n++Builtin.zeroCells z.cells (grownCap w (sLen+n) sCap e - (sLen+n))) e)):=by
  simp[Builtin.append_,run_underlying hu,run_underlying htn,sizeOf,typeInfo,zeroValue,hi,hz',asInt,asIntOf,hw,hn,hneg,hns,h63',h48',h48i,Question.forced,hf,newRow,grownCap]
 have hge:=grownCap_ge w (sLen+n) sCap e
 have hcm:grownCap w (sLen+n) sCap e≤maxLen:=grownCap_le_maxLen w (sLen+n) sCap e (by simp only[maxLen];omega)
 have hblk:Blk (w.drew.alloc (.cells (olds.toArray++Builtin.zeroCells z.cells n++Builtin.zeroCells z.cells (grownCap w (sLen+n) sCap e - (sLen+n))) e)) w.heap.size e (olds++((Builtin.zeroCells z.cells n).toList++(Builtin.zeroCells z.cells (grownCap w (sLen+n) sCap e - (sLen+n))).toList)):=by
  have:=heap_alloc_new w.drew (.cells (olds.toArray++Builtin.zeroCells z.cells n++Builtin.zeroCells z.cells (grownCap w (sLen+n) sCap e - (sLen+n))) e)
  unfold Blk
  rw[show w.heap.size=w.drew.heap.size from rfl,this]
  congr 2
  apply Array.ext'
  simp
 have hext:Ext w (w.drew.alloc (.cells (olds.toArray++Builtin.zeroCells z.cells n++Builtin.zeroCells z.cells (grownCap w (sLen+n) sCap e - (sLen+n))) e)):=(Ext.drawn w _).trans (Ext.alloc _ _)
 refine runsV_ok hr (h _ _ _ _ trivial hblk.bk hblk hext.st (Nw.of (Nat.le_refl _)) hge hcm ?_)
 simp only[List.length_append,hlo,zc_list,hzs,←Nat.add_mul]
 congr 1
 omega
theorem overlaps_k{a b:Addr}{la ca lb cb tA tB:Nat}{xs ys:List Value}{k:Value→World→Prop}(hne:a.block≠b.block)(ha:Blk w a.block tA xs)(hb:Blk w b.block tB ys)(hy:ys≠[])(h:k (.bool false) w):extnX Tryz.prog 189 #[.slice (some a) la ca,.slice (some b) lb cb] w k:=by
 unfold extnX
 unfold Blk at ha hb
 rw[run_callFunc_extern (f:=189) (fn:=_) (P:=Tryz.prog) rfl KR KR KR (e:=Extern.SlicesOverlaps.overlaps #[34,34] #[4]) KR]
 have ht:Tryz.prog.underlying 34=some (.slice 98):=by kernel_rfl
 obtain⟨i,_,hi,hs,_⟩:=slOf_parts (P:=Tryz.prog) (t:=34) (e:=98) (sz:=2) (by_:=16) KR
 have hsz:∀w,(Go.sizeOf 98).run Tryz.prog w=.ok 2 w:=λw=>by simp[sizeOf,typeInfo,hi,hs]
 rw[Lib.run_overlaps_apart w _ _ _ ht 2 hsz a b la ca lb cb hne tA tB xs.length ys.length (by simp[World.shape?,ha]) (by simp[World.shape?,hb]) (by simpa using hy) (by simp[World.frozen?,ha]) (by simp[World.frozen?,ha])]
 exact h
theorem grown_ext{w w':World}{b:Option Nat}(h:Ext w w'):w.grownBy w' b:=⟨h.os,h.tape,h.output,h.size,λk hk _=>h.block k hk⟩
theorem grown_chg{w w':World}{b:Nat}(h:Cg b w w'):w.grownBy w' (some b):=⟨h.os,h.tape,h.output,h.size,λk hk hne=>h.block k hk (λe=>hne (by rw[e]))⟩
theorem insertP{l:List ReplicaD}{r:ReplicaD}{i b:Nat}(hB:B≤w.heap.size)(hown:OwnP w B v l)(hb:Blk w b 98 (replC r))(hne:¬blockOf v=some b)(hi:i≤l.length)(hlen:l.length≤1000000) :
 CallsV Tryz.prog 135 #[v,.int .i64 i,.slice (some ⟨b,0,none⟩) 1 1] w λv' w'=>w.grownBy w' (blockOf v)∧OwnP w' B v' (l.take i++r::l.drop i):=by
 have⟨hn,hx⟩:=bg0 w
 have hl:=hown.l
 rw[List.length_map] at hl
 have hb0:Bl B w w:=Bl.refl hB
 have o:=hown.o
 have kb:=hb.bk
 have hs0:=hown.slN (f:=replC)
 have h1c:((1:Nat):Int)=1:=rfl
 (refine callsV_of Tryz.func135 rfl KR KR ?_;rw[Tryz.results135])
 rcases Nat.lt_or_eq_of_le hi with hil|rfl
 ·have hil':¬(i:Int)=(l.length:Int):=by omega
  rcases hown.1.2 with ⟨rfl,hn0⟩|⟨g,cap,cur,rfl,hBg,hg,hnc,hcm,hcs,htake⟩
  ·rw[List.length_map] at hn0
   omega
  ·rw[List.length_map] at hnc htake
   have hn1:IntKind.i64.wrap ((l.length:Int)+1)=((l.length+1:Nat):Int):=by rw[wrap_i64_id]<;>omega
   have hi1:IntKind.i64.wrap ((i:Int)+1)=((i+1:Nat):Int):=by rw[wrap_i64_id]<;>omega
   have hk1:IntKind.i64.wrap (((l.length+1:Nat):Int) - (i:Int))=((l.length+1 - i:Nat):Int):=by rw[wrap_i64_id]<;>omega
   have hgb:¬g=b:=λh=>hne (by rw[h];rfl)
   have hbg:¬b=g:=λh=>hgb h.symm
   have hall:∀c∈l.map replC,c.length=2:=by
    intro c hc
    obtain⟨y,_,rfl⟩:=List.mem_map.1 hc
    rfl
   have hone:∀u∈((l.map replC).drop i).flatten,u.oneCell'=true:=by
    intro u hu
    obtain⟨c,hc,hu⟩:=List.mem_flatten.1 hu
    obtain⟨y,_,rfl⟩:=List.mem_map.1 (List.mem_of_mem_drop hc)
    exact replC_one y u hu
   have hsrc:∀j u,((l.map replC).drop i).flatten[j]? = some u→cur.toList[i * 2+j]? = some u:=by
    intro j u hj
    rw[←flat_drop _ _ hall,←htake,List.getElem?_drop] at hj
    rcases Nat.lt_or_ge (i * 2+j) (l.length * 2) with h9|h9
    ·rwa [List.getElem?_take_of_lt h9] at hj
    ·rw[List.getElem?_take_eq_none h9] at hj;cases hj
   have hdl:((l.map replC).drop i).flatten.length=(l.length - i) * 2:=by rw[flat_len _ (λc hc=>hall c (List.mem_of_mem_drop hc)),List.length_drop,List.length_map]
   have hres:((l.map replC).take i++replC r::(l.map replC).drop i)=(l.take i++r::l.drop i).map replC:=by simp
   have hall2:∀c∈(l.take i++r::l.drop i).map replC,c.length=2:=by
    intro c hc
    obtain⟨y,_,rfl⟩:=List.mem_map.1 hc
    rfl
   have hlen2:((l.take i++r::l.drop i).map replC).length=l.length+1:=by simp;omega
   have pure3:Hid ((∀c∈l.map replC,c.length=2)∧(∀u∈((l.map replC).drop i).flatten,u.oneCell'=true)∧(∀j u,((l.map replC).drop i).flatten[j]? = some u→cur.toList[i * 2+j]? = some u)∧((l.map replC).drop i).flatten.length=(l.length - i) * 2∧((l.map replC).take i++replC r::(l.map replC).drop i)=(l.take i++r::l.drop i).map replC∧(∀c∈(l.take i++r::l.drop i).map replC,c.length=2)∧((l.take i++r::l.drop i).map replC).length=l.length+1∧cur.toList.take (l.length * 2)=(l.map replC).flatten∧cur.toList.length=cap * 2):=⟨hall,hone,hsrc,hdl,hres,hall2,hlen2,htake,by rw[Array.length_toList];exact hcs⟩
   clear hall hone hsrc hdl hres hall2 hlen2
   have hcur:Blk w g 98 cur.toList:=hg
   have kg:=hcur.bk
   have hbq:((i:Int) == (l.length:Int))=false:=by simp;omega
   have hin:¬i=l.length:=by omega
   clear hil' hl hne
   rcases Nat.lt_or_ge cap (l.length+1) with hcap|hcap
   ·have hcap':cap<l.length+1:=hcap
    clear hg hcs htake o hs0 hown
    (repeat' first|with_reducible refine slice_hi (by omega) ?_|with_reducible refine slice_lo (by omega) (by omega) (by omega) ?_|(with_reducible first|exact⟨⟩|(refine gB ?_;intros)|refine gT ?_ ?_)|refine gs ?_|refine sx ?_)
    obtain⟨hall,hone,hsrc,hdl,hres,hall2,hlen2,htake,hcs⟩:=pure3.out
    have htk:(cur.toList.take (i * 2)).length=i * 2:=by rw[List.length_take,hcs];omega
    refine append_zeros_k (e:=98) (sz:=2) (by_:=16) (z:=.agg #[.int .i64 0,.int .i64 0]) (N:=l.length+1) (olds:=cur.toList.take (i * 2)) KR KR rfl (by decide) (by decide) (kn:=.i64) KR htk (λj u hj=>by
     rw[add_none,Nat.zero_add,hcur.cell]
     rcases Nat.lt_or_ge j (i * 2) with h9|h9
     ·rwa [List.getElem?_take_of_lt h9] at hj
     ·rw[List.getElem?_take_eq_none h9] at hj;cases hj) (by omega) (by omega) (by omega) (by omega) λg2 c2 w2 ZZ n2 k2 hb2 s2 q2 hc1 hc2 hc3=>?_
    clear hall hone hsrc hdl hres hall2 hlen2 htake hcs htk
    have hgg:¬g=g2:=(q2.1 g hcur.lt).1
    have hbg2:¬b=g2:=(q2.1 b hb.lt).1
    (repeat' first|with_reducible refine slice_hi (by omega) ?_|with_reducible refine slice_lo (by omega) (by omega) (by omega) ?_|(with_reducible first|exact⟨⟩|(refine gB ?_;intros)|refine gT ?_ ?_)|refine gs ?_|refine sx ?_)
    refine copyB_k (e:=98) (sz:=2) (by_:=16) (cs:=replC r) (sLen:=1) (dLen:=l.length+1 - i) KR hb2 (λj u hj=>by rw[add_none,Nat.zero_add,(kb.2.1 w2 FR).cell];exact hj) (by rw[Nat.min_eq_left (by omega)];rfl) (by rw[hc3];show i * 2+2≤_;omega) (replC_one r) λw3 n3 hb3 s3 c3=>?_
    generalize hcu1:(cur.toList.take (i * 2)++ZZ).take (i * 2)++replC r++(cur.toList.take (i * 2)++ZZ).drop (i * 2+(replC r).length)=cur1 at hb3
    (repeat' first|((with_reducible refine wpd_at 11 ?_);refine wpd_hold ?_)|(with_reducible first|exact⟨⟩|(refine gB ?_;intros)|refine gT ?_ ?_)|refine gs ?_|refine sx ?_)
    clear k2 hb2
    have k3:=hb3.bk
    unfold wpdH
    refine wpd_rel 8 (λiI v w9=>match iI with
     |0=>v=.slice (some ⟨g2,0,none⟩) (l.length+1) c2
     |1=>v=.int .i64 i
     |2=>v=.int .i64 1
     |3=>v=.int .i64 ((i+1:Nat):Int)
     |4=>v=.slice (some ⟨g2,(i+1) * 2,none⟩) (l.length+1 - (i+1)) (c2 - (i+1))
     |5=>v=.slice (some ⟨g,0,none⟩) l.length cap
     |6=>v=.int .i64 i
     |7=>v=.slice (some ⟨g,i * 2,none⟩) (l.length - i) (cap - i)
     |_=>False) KR KR KR ?_ ?_ ?_
    ·intro iI v w1 w2 hR hx9
     match iI,hR with
     |0,h|1,h|2,h|3,h|4,h|5,h|6,h|7,h=>exact h
    ·intro iI oO hi ho gF w9 hx9 hdep hag
     have⟨s9,n9,r9,z9⟩:=bg9 hx9
     rcases iI with _|_|_|_|_|_|_|_|iI
     ·cases ho
      have a9:=hag.at 9 KR
      simp only[S5,↓reduceIte,Nat.reduceEqDiff,initF, *] at a9
      clear hag hdep
      refine relStep_off rfl ?_
      (repeat' first|with_reducible refine slice_hi (by omega) ?_|with_reducible refine slice_lo (by omega) (by omega) (by omega) ?_|(with_reducible first|exact⟨⟩|(refine gB ?_;intros)|refine gT ?_ ?_)|refine gs ?_|refine sx ?_)
     ·cases ho
      have a1:=hag.at 1 KR
      simp only[S5,↓reduceIte,Nat.reduceEqDiff,initF, *] at a1
      clear hag hdep
      refine relStep_off rfl ?_
      (repeat' first|with_reducible refine slice_hi (by omega) ?_|with_reducible refine slice_lo (by omega) (by omega) (by omega) ?_|(with_reducible first|exact⟨⟩|(refine gB ?_;intros)|refine gT ?_ ?_)|refine gs ?_|refine sx ?_)
     ·cases ho
      have a7:=hag.at 7 KR
      simp only[S5,↓reduceIte,Nat.reduceEqDiff,initF, *] at a7
      clear hag hdep
      refine relStep_off rfl ?_
      (repeat' first|with_reducible refine slice_hi (by omega) ?_|with_reducible refine slice_lo (by omega) (by omega) (by omega) ?_|(with_reducible first|exact⟨⟩|(refine gB ?_;intros)|refine gT ?_ ?_)|refine gs ?_|refine sx ?_)
     ·cases ho
      have d1:(gF 47)=.int .i64 i:=hdep ⟨1,.data⟩ (by simp) rfl _ _ rfl rfl
      have d2:(gF 48)=.int .i64 1:=hdep ⟨2,.data⟩ (by simp) rfl _ _ rfl rfl
      clear hag hdep
      refine relStep_off rfl ?_
      (repeat' first|with_reducible refine slice_hi (by omega) ?_|with_reducible refine slice_lo (by omega) (by omega) (by omega) ?_|(with_reducible first|exact⟨⟩|(refine gB ?_;intros)|refine gT ?_ ?_)|refine gs ?_|refine sx ?_)
     ·cases ho
      have d0:(gF 46)=.slice (some ⟨g2,0,none⟩) (l.length+1) c2:=hdep ⟨0,.data⟩ (by simp) rfl _ _ rfl rfl
      have d3:(gF 49)=.int .i64 ((i+1:Nat):Int):=hdep ⟨3,.data⟩ (by simp) rfl _ _ rfl rfl
      clear hag hdep
      refine relStep_off rfl ?_
      (repeat' first|with_reducible refine slice_hi (by omega) ?_|with_reducible refine slice_lo (by omega) (by omega) (by omega) ?_|(with_reducible first|exact⟨⟩|(refine gB ?_;intros)|refine gT ?_ ?_)|refine gs ?_|refine sx ?_)
     ·cases ho
      have a0:=hag.at 0 KR
      simp only[S5,↓reduceIte,Nat.reduceEqDiff,initF, *] at a0
      clear hag hdep
      refine relStep_off rfl ?_
      (repeat' first|with_reducible refine slice_hi (by omega) ?_|with_reducible refine slice_lo (by omega) (by omega) (by omega) ?_|(with_reducible first|exact⟨⟩|(refine gB ?_;intros)|refine gT ?_ ?_)|refine gs ?_|refine sx ?_)
     ·cases ho
      have a1:=hag.at 1 KR
      simp only[S5,↓reduceIte,Nat.reduceEqDiff,initF, *] at a1
      clear hag hdep
      refine relStep_off rfl ?_
      (repeat' first|with_reducible refine slice_hi (by omega) ?_|with_reducible refine slice_lo (by omega) (by omega) (by omega) ?_|(with_reducible first|exact⟨⟩|(refine gB ?_;intros)|refine gT ?_ ?_)|refine gs ?_|refine sx ?_)
     ·cases ho
      have d5:(gF 51)=.slice (some ⟨g,0,none⟩) l.length cap:=hdep ⟨5,.data⟩ (by simp) rfl _ _ rfl rfl
      have d6:(gF 52)=.int .i64 i:=hdep ⟨6,.data⟩ (by simp) rfl _ _ rfl rfl
      clear hag hdep
      refine relStep_off rfl ?_
      (repeat' first|with_reducible refine slice_hi (by omega) ?_|with_reducible refine slice_lo (by omega) (by omega) (by omega) ?_|(with_reducible first|exact⟨⟩|(refine gB ?_;intros)|refine gT ?_ ?_)|refine gs ?_|refine sx ?_)
     ·omega
    ·intro g9 w9 hx9 hR hag
     have⟨s9,n9,r9,z9⟩:=bg9 hx9
     have d4:(g9 50)=.slice (some ⟨g2,(i+1) * 2,none⟩) (l.length+1 - (i+1)) (c2 - (i+1)):=hR 4 _ _ (by decide) rfl rfl
     have d7:(g9 53)=.slice (some ⟨g,i * 2,none⟩) (l.length - i) (cap - i):=hR 7 _ _ (by decide) rfl rfl
     have a9:=hag.at 9 KR
     simp only[S5,↓reduceIte,Nat.reduceEqDiff,initF, *] at a9
     clear hag hR
     simp only[List.drop_succ_cons,List.drop_zero]
     (repeat' first|(with_reducible first|exact⟨⟩|(refine gB ?_;intros)|refine gT ?_ ?_)|refine gs ?_|refine sx ?_)
     obtain⟨hall,hone,hsrc,hdl,hres,hall2,hlen2,htake,hcs⟩:=pure3.out
     have hti:cur.toList.take (i * 2)=((l.map replC).take i).flatten:=by
      rw[←flat_take _ _ hall,←htake,List.take_take,Nat.min_eq_left (by omega)]
     have hgr:=ins_grow (k:=2) (i:=i) (l:=l.map replC) (cur:=cur.toList.take (i * 2)++ZZ) (vs:=replC r) hall (by simpa using hil) rfl (by rw[List.take_left' (by rw[List.length_take,hcs];omega)];exact hti) (by rw[hc3,List.length_map];omega) cur1 hcu1.symm
     refine copyB_k (e:=98) (sz:=2) (by_:=16) (cs:=((l.map replC).drop i).flatten) (sLen:=l.length - i) (dLen:=l.length+1 - (i+1)) KR (k3.2.1 w9 FR) (λj u hj=>by rw[add_none,(kg.2.1 w9 FR).cell];exact hsrc j u hj) (by rw[hdl,Nat.min_eq_left (by omega)]) (by rw[hdl,hgr.2.1,hc3];omega) hone λw4 n4 hb4 s4 c4=>?_
     have he:Ext w w4:=FR
     rw[List.length_map,hres] at hgr
     (repeat' first|(with_reducible first|exact⟨⟩|(refine gB ?_;intros)|refine gT ?_ ?_)|refine gs ?_|refine sx ?_)
     exact⟨grown_ext he,own_of_blk hb4 hlen2.symm hc1 hc2 (hgr.2.2.trans hc3) hgr.1 hall2 FR (by rw[hlen2];omega)⟩
   ·have hcap':¬cap<l.length+1:=by omega
    have cg0:Cg g w w:=Chg.refl' w g
    clear hg hcs htake o hs0 hown
    (repeat' first|with_reducible refine slice_hi (by omega) ?_|with_reducible refine slice_lo (by omega) (by omega) (by omega) ?_|(with_reducible first|exact⟨⟩|(refine gB ?_;intros)|refine gT ?_ ?_)|refine gs ?_|refine sx ?_)
    refine overlaps_k (show b≠g from hbg) hb hcur (by
     have:=pure3.out.2.2.2.2.2.2.2.2
     intro h
     rw[h] at this
     simp at this
     omega) ?_
    (repeat' first|((with_reducible refine wpd_at 15 ?_);refine wpd_hold ?_)|with_reducible refine slice_hi (by omega) ?_|with_reducible refine slice_lo (by omega) (by omega) (by omega) ?_|(with_reducible first|exact⟨⟩|(refine gB ?_;intros)|refine gT ?_ ?_)|refine gs ?_|refine sx ?_)
    unfold wpdH
    refine wpd_rel 8 (λiI v w9=>match iI with
     |0=>v=.slice (some ⟨g,0,none⟩) (l.length+1) cap
     |1=>v=.int .i64 i
     |2=>v=.int .i64 1
     |3=>v=.int .i64 ((i+1:Nat):Int)
     |4=>v=.slice (some ⟨g,(i+1) * 2,none⟩) (l.length+1 - (i+1)) (cap - (i+1))
     |5=>v=.slice (some ⟨g,0,none⟩) (l.length+1) cap
     |6=>v=.int .i64 i
     |7=>v=.slice (some ⟨g,i * 2,none⟩) ((l.length+1) - i) (cap - i)
     |_=>False) KR KR KR ?_ ?_ ?_
    ·intro iI v w1 w2 hR hx9
     match iI,hR with
     |0,h|1,h|2,h|3,h|4,h|5,h|6,h|7,h=>exact h
    ·intro iI oO hi ho gF w9 hx9 hdep hag
     have⟨s9,n9,r9,z9⟩:=bg9 hx9
     rcases iI with _|_|_|_|_|_|_|_|iI
     ·cases ho
      have a0:=hag.at 0 KR
      simp only[S5,↓reduceIte,Nat.reduceEqDiff,initF, *] at a0
      clear hag hdep
      refine relStep_off rfl ?_
      (repeat' first|with_reducible refine slice_hi (by omega) ?_|with_reducible refine slice_lo (by omega) (by omega) (by omega) ?_|(with_reducible first|exact⟨⟩|(refine gB ?_;intros)|refine gT ?_ ?_)|refine gs ?_|refine sx ?_)
     ·cases ho
      have a1:=hag.at 1 KR
      simp only[S5,↓reduceIte,Nat.reduceEqDiff,initF, *] at a1
      clear hag hdep
      refine relStep_off rfl ?_
      (repeat' first|with_reducible refine slice_hi (by omega) ?_|with_reducible refine slice_lo (by omega) (by omega) (by omega) ?_|(with_reducible first|exact⟨⟩|(refine gB ?_;intros)|refine gT ?_ ?_)|refine gs ?_|refine sx ?_)
     ·cases ho
      have a7:=hag.at 7 KR
      simp only[S5,↓reduceIte,Nat.reduceEqDiff,initF, *] at a7
      clear hag hdep
      refine relStep_off rfl ?_
      (repeat' first|with_reducible refine slice_hi (by omega) ?_|with_reducible refine slice_lo (by omega) (by omega) (by omega) ?_|(with_reducible first|exact⟨⟩|(refine gB ?_;intros)|refine gT ?_ ?_)|refine gs ?_|refine sx ?_)
     ·cases ho
      have d1:(gF 70)=.int .i64 i:=hdep ⟨1,.data⟩ (by simp) rfl _ _ rfl rfl
      have d2:(gF 71)=.int .i64 1:=hdep ⟨2,.data⟩ (by simp) rfl _ _ rfl rfl
      clear hag hdep
      refine relStep_off rfl ?_
      (repeat' first|with_reducible refine slice_hi (by omega) ?_|with_reducible refine slice_lo (by omega) (by omega) (by omega) ?_|(with_reducible first|exact⟨⟩|(refine gB ?_;intros)|refine gT ?_ ?_)|refine gs ?_|refine sx ?_)
     ·cases ho
      have d0:(gF 69)=.slice (some ⟨g,0,none⟩) (l.length+1) cap:=hdep ⟨0,.data⟩ (by simp) rfl _ _ rfl rfl
      have d3:(gF 72)=.int .i64 ((i+1:Nat):Int):=hdep ⟨3,.data⟩ (by simp) rfl _ _ rfl rfl
      clear hag hdep
      refine relStep_off rfl ?_
      (repeat' first|with_reducible refine slice_hi (by omega) ?_|with_reducible refine slice_lo (by omega) (by omega) (by omega) ?_|(with_reducible first|exact⟨⟩|(refine gB ?_;intros)|refine gT ?_ ?_)|refine gs ?_|refine sx ?_)
     ·cases ho
      have a0:=hag.at 0 KR
      simp only[S5,↓reduceIte,Nat.reduceEqDiff,initF, *] at a0
      clear hag hdep
      refine relStep_off rfl ?_
      (repeat' first|with_reducible refine slice_hi (by omega) ?_|with_reducible refine slice_lo (by omega) (by omega) (by omega) ?_|(with_reducible first|exact⟨⟩|(refine gB ?_;intros)|refine gT ?_ ?_)|refine gs ?_|refine sx ?_)
     ·cases ho
      have a1:=hag.at 1 KR
      simp only[S5,↓reduceIte,Nat.reduceEqDiff,initF, *] at a1
      clear hag hdep
      refine relStep_off rfl ?_
      (repeat' first|with_reducible refine slice_hi (by omega) ?_|with_reducible refine slice_lo (by omega) (by omega) (by omega) ?_|(with_reducible first|exact⟨⟩|(refine gB ?_;intros)|refine gT ?_ ?_)|refine gs ?_|refine sx ?_)
     ·cases ho
      have d5:(gF 74)=.slice (some ⟨g,0,none⟩) (l.length+1) cap:=hdep ⟨5,.data⟩ (by simp) rfl _ _ rfl rfl
      have d6:(gF 75)=.int .i64 i:=hdep ⟨6,.data⟩ (by simp) rfl _ _ rfl rfl
      clear hag hdep
      refine relStep_off rfl ?_
      (repeat' first|with_reducible refine slice_hi (by omega) ?_|with_reducible refine slice_lo (by omega) (by omega) (by omega) ?_|(with_reducible first|exact⟨⟩|(refine gB ?_;intros)|refine gT ?_ ?_)|refine gs ?_|refine sx ?_)
     ·omega
    ·intro g9 w9 hx9 hR hag
     have⟨s9,n9,r9,z9⟩:=bg9 hx9
     have d4:(g9 73)=.slice (some ⟨g,(i+1) * 2,none⟩) (l.length+1 - (i+1)) (cap - (i+1)):=hR 4 _ _ (by decide) rfl rfl
     have d7:(g9 76)=.slice (some ⟨g,i * 2,none⟩) ((l.length+1) - i) (cap - i):=hR 7 _ _ (by decide) rfl rfl
     have a0:=hag.at 0 KR
     have a1:=hag.at 1 KR
     have a2:=hag.at 2 KR
     simp only[S5,↓reduceIte,Nat.reduceEqDiff,initF, *] at a0 a1 a2
     clear hag hR
     simp only[List.drop_succ_cons,List.drop_zero]
     (repeat' first|(with_reducible first|exact⟨⟩|(refine gB ?_;intros)|refine gT ?_ ?_)|refine gs ?_|refine sx ?_)
     obtain⟨hall,hone,hsrc,hdl,hres,hall2,hlen2,htake,hcs⟩:=pure3.out
     generalize hcu1:cur.toList.take ((i+1) * 2)++((l.map replC).drop i).flatten++cur.toList.drop ((i+1) * 2+((l.map replC).drop i).flatten.length)=cur1
     have hro:=ins_room (k:=2) (i:=i) (l:=l.map replC) (cur:=cur.toList) (vs:=replC r) hall (by simpa using hil) rfl (by rw[List.length_map];exact htake) (by rw[List.length_map];rw[hcs];omega) cur1 hcu1.symm
     refine copyB_k (e:=98) (sz:=2) (by_:=16) (cs:=((l.map replC).drop i).flatten) (sLen:=l.length+1 - i) (dLen:=l.length+1 - (i+1)) KR (kg.2.1 w9 FR) (λj u hj=>by rw[add_none,(kg.2.1 w9 FR).cell];exact hsrc j u hj) (by rw[hdl,Nat.min_eq_right (by omega)];congr 1;omega) (by rw[hdl,hcs];omega) hone λw4 n4 hb4 s4 c4=>?_
     rw[hcu1] at hb4
     clear kg
     have k4:=hb4.bk
     rw[List.length_map,hres] at hro
     (repeat' first|with_reducible refine slice_hi (by omega) ?_|with_reducible refine slice_lo (by omega) (by omega) (by omega) ?_|(with_reducible first|exact⟨⟩|(refine gB ?_;intros)|refine gT ?_ ?_)|refine gs ?_|refine sx ?_)
     refine copyB_k (e:=98) (sz:=2) (by_:=16) (cs:=replC r) (sLen:=1) (dLen:=l.length+1 - i) KR hb4 (λj u hj=>by rw[add_none,Nat.zero_add,(kb.2.1 w4 FR).cell];exact hj) (by rw[Nat.min_eq_left (by omega)];rfl) (by rw[hro.2.1,hcs];show i * 2+2≤_;omega) (replC_one r) λw5 n5 hb5 s5 c5=>?_
     have he:Cg g w w5:=FR
     (repeat' first|(with_reducible first|exact⟨⟩|(refine gB ?_;intros)|refine gT ?_ ?_)|refine gs ?_|refine sx ?_)
     exact⟨grown_chg he,own_of_blk hb5 hlen2.symm hcap hcm (hro.2.2.trans hcs) hro.1 hall2 hBg (by rw[hlen2];omega)⟩
 ·(repeat' first|(with_reducible first|exact⟨⟩|(refine gB ?_;intros)|refine gT ?_ ?_)|refine gs ?_|refine sx ?_)
  simp only[sliceX,Int.toNat_natCast]
  refine need ⟨o.2.2.2.2.2.1,by omega,by omega,by omega⟩ ?_
  (repeat' first|(with_reducible first|exact⟨⟩|(refine gB ?_;intros)|refine gT ?_ ?_)|refine gs ?_|simp(maxDischargeDepth:=3) only[↓X,↓Y,↓Q,S1,↓reduceIte,Nat.reduceEqDiff,Nat.reduceAdd,Int.reduceLT,Int.reduceLE,Int.reduceNeg,Int.reduceBEq,Int.reduceBNe,Int.reduceEq,Nat.reduceLeDiff,Nat.reduceMul,Nat.reduceLT, *,hl.1]|simp(singlePass:=true) (maxDischargeDepth:=99) only[*,S2,Nat.reduceLT,hl.1])
  rw[hown.block]
  refine append_row (e:=98) (sz:=2) (by_:=16) (z:=.agg #[.int .i64 0,.int .i64 0]) (ns:=[replC r]) KR KR rfl (by decide) hown (by simpa using hb) (by simp[replC]) (by simpa using replC_one r) rfl (by simp only[List.length_map,List.length_cons,List.length_nil];omega) hB λv' w' hown' hg _ _=>?_
  have n':Now w':=trivial
  (repeat' first|(with_reducible first|exact⟨⟩|(refine gB ?_;intros)|refine gT ?_ ?_)|refine gs ?_|refine sx ?_)
  rw[List.take_of_length_le (Nat.le_refl _),List.drop_of_length_le (Nat.le_refl _)]
  simpa [OwnP] using hown'
end
end Go.Proofs.YtphciegaokdolaaGreatDoor
