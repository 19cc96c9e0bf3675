
/- The document's answer, layer 10: before, Valid. -/
import Derived.Test.YtphciegaokdolaaGreatDoorPlan
import Derived.Test.YtphciegaokdolaaGreatDoorWorld1
namespace Go.Proofs.YtphciegaokdolaaGreatDoor
set_option linter.unusedSimpArgs false
set_option linter.unusedVariables false
open Go Go.RowKit
set_option maxRecDepth 100000
set_option linter.unusedSectionVars false
set_option maxHeartbeats 2000000
theorem sxRef101{p q:Prop}(hq:q)(h:p=q:=by first|(simp(maxDischargeDepth:=3) only[↓X,↓Y,↓Q,S1,↓reduceIte,Nat.reduceEqDiff,Nat.reduceAdd,Int.reduceLT,Int.reduceLE,Int.reduceNeg,Int.reduceBEq,Int.reduceBNe,Int.reduceEq,Nat.reduceLeDiff,Nat.reduceMul,Nat.reduceLT, *,List.take_zero,List.all_nil,List.any_nil];try exact rfl)|(simp(singlePass:=true) (maxDischargeDepth:=99) only[*,S2,Nat.reduceLT,List.take_zero,List.all_nil,List.any_nil];try exact rfl)):p:=h▸hq
theorem befS_lt{o:List Nat}{i k:Nat}(h:∀x,o.getD x 0<4096)(hk:k<12):∀x,(befS i o k).getD x 0<4096:=by
 refine getD_set_lt h (Nat.or_lt_two_pow (n:=12) (h i) (Nat.or_lt_two_pow (n:=12) ?_ (h k)))
 exact Nat.pow_lt_pow_right (by decide) hk
theorem befI_lt{i:Nat}:∀{l o:List Nat},(∀x,o.getD x 0<4096)→(∀k∈l,k<12)→∀x,(befI i l o).getD x 0<4096
 |[],_,h,_=>h
 |k::r,o,h,hl=>by
  show ∀x,(befI i r (befS i o k)).getD x 0<4096
  exact befI_lt (befS_lt h (hl k (List.mem_cons_self ..))) λx hx=>hl x (List.mem_cons_of_mem _ hx)
theorem befP_lt{ls:List (List Nat)}{o:List Nat}(h:∀x,o.getD x 0<4096)(ha:∀i k,k∈ls.getD i []→k<12):∀m x,(befP ls o m).getD x 0<4096
 |0,x=>h x
 |m+1,x=>by rw[befP_succ];exact befI_lt (befP_lt h ha m) (λk hk=>ha m k hk) x
theorem befN_lt{ls:List (List Nat)}(ha:∀i k,k∈ls.getD i []→k<12):∀r x,(befN ls r).getD x 0<4096
 |0,x=>by simp only[befN,List.getD_eq_getElem?_getD,List.getElem?_replicate];split<;>simp
 |r+1,x=>befP_lt (befN_lt ha r) ha _ x
theorem befP_len(ls:List (List Nat))(o:List Nat)(m:Nat):(befP ls o m).length=o.length:=(befP_up ls o m).1
theorem befI_len(i:Nat)(l o:List Nat):(befI i l o).length=o.length:=(befI_up i l o).1
theorem ascP_iff:∀{l:List Int} {p:Int},ascP p l=true↔(∀a,l[0]? = some a→p<a)∧∀j (h:j+1<l.length),l[j]<l[j+1]
 |[],p=>by simp[ascP]
 |a::r,p=>by
  simp only[ascP,Bool.and_eq_true,decide_eq_true_eq,ascP_iff (l:=r),List.getElem?_cons_zero,Option.some.injEq,List.length_cons]
  constructor
  ·rintro⟨h1,h2,h3⟩
   refine⟨λb e=>e▸h1,λj hj=>?_⟩
   cases j with
   |zero=>
    have hr:0<r.length:=by omega
    exact h2 r[0] (List.getElem?_eq_getElem hr)
   |succ j=>exact h3 j (by omega)
  ·rintro⟨h1,h2⟩
   refine⟨h1 a rfl,λb hb=>?_,λj hj=>h2 (j+1) (by omega)⟩
   obtain⟨hr,rfl⟩:=List.getElem?_eq_some_iff.1 hb
   exact h2 0 (by omega)
theorem ascL_iff{l:List Int}:ascL l=true↔∀j (h:j+1<l.length),l[j]<l[j+1]:=by
 cases l with
 |nil=>simp[ascL]
 |cons a r=>
  simp only[ascL,ascP_iff,List.length_cons]
  constructor
  ·rintro⟨h1,h2⟩ j hj
   cases j with
   |zero=>
    have hr:0<r.length:=by omega
    exact h1 r[0] (List.getElem?_eq_getElem hr)
   |succ j=>exact h2 j (by omega)
  ·intro h
   refine⟨λb hb=>?_,λj hj=>h (j+1) (by omega)⟩
   obtain⟨hr,rfl⟩:=List.getElem?_eq_some_iff.1 hb
   exact h 0 (by omega)
theorem badB_iff{n:Int}:∀{ll:List (List Int)} {i:Nat},badB n i ll=true↔∃j,∃h:j<ll.length,∃k∈ll[j],offB n ((i+j:Nat):Int) k=true
 |[],i=>by simp[badB]
 |l::r,i=>by
  simp only[badB,Bool.or_eq_true,badB_iff (ll:=r),List.any_eq_true,List.length_cons]
  constructor
  ·rintro(⟨k,h1,h2⟩|⟨j,hj,k,h1,h2⟩)
   ·exact⟨0,by omega,k,h1,h2⟩
   ·exact⟨j+1,by omega,k,h1,by rw[show i+(j+1)=i+1+j by omega];exact h2⟩
  ·rintro⟨j,hj,k,h1,h2⟩
   cases j with
   |zero=>exact .inl ⟨k,h1,h2⟩
   |succ j=>exact .inr ⟨j,by omega,k,h1,by rw[show i+1+j=i+(j+1) by omega];exact h2⟩
section
variable{w:World}{B:Nat}{v:Value}{vs:List Value}{after:List (List Int)}
theorem LLR.blz{w':World}{ll:List (List Int)}(h:LLR w B v vs ll)(hb:Bl B w w'):LLR w' B v vs ll:=⟨h.v.bl hb,h.len,λi hi=>let ⟨u,h1,h2⟩:=h.at_ i hi;⟨u,h1,h2.bl hb⟩⟩
theorem rowN_get{o:List Nat}{i:Nat}(h:i<o.length):(o.map natV)[i]? = some (.int .i64 (o.getD i 0:Nat)):=getD_map_natV h
theorem rowN_set{o:List Nat}{i n:Nat}:(o.map natV).set i (.int .i64 (n:Nat))=(o.set i n).map natV:=by rw[List.map_set];rfl
theorem ref10before(hB:B≤w.heap.size)(hv:LLR w B v vs after)(h12:after.length≤12)(hr:∀i (h:i<after.length),∀k∈after[i],0≤k∧k<after.length):CallsV Tryz.prog 191 #[v] w λr w'=>Ext w w'∧∃b,r=.slice (some ⟨b,0,none⟩) after.length after.length∧Blk w' b 3 ((bef (natA after)).map natV)∧w.heap.size≤b:=by
 have⟨hn,hx⟩:=bg0 w
 have hl:=hv.len_
 have hl3:lenN v=after.length:=hl.2.2
 have hl1:=hl.1
 have hl2:=hl.2.1
 have hg:=λw' (h:Bl B w w') (k:Nat) (hk:k<after.length)=>(hv.blz h).get hk
 replace hg:Hid _:=hg
 replace hr:Hid _:=hr
 have hmax:after.length≤9223372036854775807:=by omega
 clear hl
 (refine callsV_of Tryz.func191 rfl KR KR ?_;rw[Tryz.results191])
 (repeat' first|(with_reducible first|exact⟨⟩|(refine gB ?_;intros)|refine gT ?_ ?_)|refine gs ?_|refine sx ?_)
 refine mk_one_k (n:=after.length) (z:=.int .i64 0) rfl (by decide) (by omega) λb w1 n1 k1 s1 q1=>?_
 have hrep:List.replicate after.length (Value.int .i64 0)=(befN (natA after) 0).map natV:=by
  simp only[befN,natA_len,List.map_replicate];rfl
 rw[hrep] at k1
 have hlN:∀r,(befN (natA after) r).length=after.length:=λr=>by rw[befN_len,natA_len]
 have hal:∀i k,k∈(natA after).getD i []→k<12:=λi k hk=>by
  have hi:i<after.length:=by have:=mem_lt hk;rwa [natA_len] at this
  rw[natA_get hi] at hk
  obtain⟨y,hy,rfl⟩:=List.mem_map.1 hk
  have:=hr.out i hi y hy
  omega
 have hNlt:=befN_lt hal
 have hPlt:=λr m=>befP_lt (hNlt r) hal m
 have hPl:∀r m,(befP (natA after) (befN (natA after) r) m).length=after.length:=λr m=>by rw[befP_len,hlN]
 replace hPl:Hid _:=hPl
 replace hPlt:Hid _:=hPlt
 replace hNlt:Hid _:=hNlt
 replace hal:Hid _:=hal
 replace hlN:Hid _:=hlN
 have hb1:Blk w1 b 3 ((befN (natA after) 0).map natV):=k1.2.1 _ k1.2.2.1
 have hbl1:b<w1.heap.size:=hb1.lt
 have hbw:Bl B w w:=Bl.refl hB
 clear hrep k1
 (repeat' first|(with_reducible first|exact⟨⟩|(refine gB ?_;intros)|refine gT ?_ ?_)|refine gs ?_|refine sx ?_)
 refine loop_b b after.length (λg0 r g w'=>g 12=.int .i64 r∧(g 0=g0 0∧g 3=g0 3∧g 11=g0 11)∧Blk w' b 3 ((befN (natA after) r).map natV)) KR hmax FR ?_ ?_ ?_
 ·(repeat' first|(with_reducible first|exact⟨⟩|(refine gB ?_;intros)|refine gT ?_ ?_)|refine gs ?_|refine sx ?_)
  all_goals exact hb1
 ·rintro r m g wk hk hlt nk sk ck hw hww ⟨hi,hf,hbk⟩
  simp(maxDischargeDepth:=3) only[U,↓reduceIte,Nat.reduceEqDiff, *] at hf
  have hb0:Blk wk b 3 ((befP (natA after) (befN (natA after) r) 0).map natV):=hbk
  clear hbk
  have hbl:b<wk.heap.size:=hb0.lt
  (repeat' first|(with_reducible first|exact⟨⟩|(refine gB ?_;intros)|refine gT ?_ ?_)|refine gs ?_|refine sx ?_)
  refine loop_b b after.length (λg0 i g w'=>g 16=.int .i64 i∧(g 0=g0 0∧g 3=g0 3∧g 11=g0 11∧g 12=g0 12∧g 15=g0 15)∧Blk w' b 3 ((befP (natA after) (befN (natA after) r) i).map natV)) KR hmax FR ?_ ?_ ?_
  ·(repeat' first|(with_reducible first|exact⟨⟩|(refine gB ?_;intros)|refine gT ?_ ?_)|refine gs ?_|refine sx ?_)
   all_goals exact hb0
  ·rintro i m1 g1 w2 hk2 hlt2 n2 s2 c2 hw2 hww2 ⟨hi2,hf2,hbk2⟩
   simp(maxDischargeDepth:=3) only[U,↓reduceIte,Nat.reduceEqDiff, *] at hf2
   obtain⟨z,hz,hsz⟩:=hg.out w2 FR i hlt2
   have hz':=hsz.k FR
   have hzm:after[i].length≤9223372036854775807:=by simpa using hsz.maxLen
   have hbl2:b<w2.heap.size:=hbk2.lt
   have hb20:Blk w2 b 3 ((befI i (((natA after).getD i []).take 0) (befP (natA after) (befN (natA after) r) i)).map natV):=hbk2
   clear hbk2
   (repeat' first|(with_reducible first|exact⟨⟩|(refine gB ?_;intros)|refine gT ?_ ?_)|refine gs ?_|refine sx ?_)
   refine loop_b b after[i].length (λg0 t g w'=>g 24=.int .i64 t∧(g 0=g0 0∧g 3=g0 3∧g 4=g0 4∧g 11=g0 11∧g 12=g0 12∧g 15=g0 15∧g 16=g0 16∧g 22=g0 22∧g 23=g0 23)∧Blk w' b 3 ((befI i (((natA after).getD i []).take t) (befP (natA after) (befN (natA after) r) i)).map natV)) KR hzm FR ?_ ?_ ?_
   ·(repeat' first|(with_reducible first|exact⟨⟩|(refine gB ?_;intros)|refine gT ?_ ?_)|refine gs ?_|refine sx ?_)
    all_goals exact hb20
   ·rintro t m3 g3 w3 hk3 hlt3 n3 s3 c3 hbl3 hw3 ⟨hi3,hf3,hbk3⟩
    simp(maxDischargeDepth:=3) only[U,↓reduceIte,Nat.reduceEqDiff, *] at hf3
    have hran:=hr.out i hlt2 _ (List.getElem_mem hlt3)
    obtain⟨y,hy⟩:∃y:Nat,after[i][t]=y:=⟨after[i][t].toNat,by omega⟩
    have hyn:y<after.length:=by omega
    have hy12:y<62:=by omega
    have e1:=shlI_nat hy12
    have hnat:((natA after).getD i [])[t]? = some y:=by
     rw[natA_get hlt2,List.getElem?_map,List.getElem?_eq_getElem hlt3,Option.map_some,hy,Int.toNat_natCast]
    have htl:t<((natA after).getD i []).length:=(List.getElem?_eq_some_iff.1 hnat).1
    have hel:((natA after).getD i [])[t]=y:=(List.getElem?_eq_some_iff.1 hnat).2
    have hstep:=befI_take (i:=i) (l:=(natA after).getD i []) (o:=befP (natA after) (befN (natA after) r) i) htl
    rw[hel] at hstep
    have holt:=befI_lt (i:=i) (l:=((natA after).getD i []).take t) (hPlt.out r i) (λk hk=>hal.out i k (List.mem_of_mem_take hk))
    have hol:(befI i (((natA after).getD i []).take t) (befP (natA after) (befN (natA after) r) i)).length=after.length:=by rw[befI_len,hPl.out]
    replace hstep:Hid _:=hstep
    generalize befI i (((natA after).getD i []).take t) (befP (natA after) (befN (natA after) r) i)=o at *
    have g1:(o.map natV)[i]? = some (.int .i64 (o.getD i 0:Nat)):=rowN_get (by omega)
    have g2:(o.map natV)[y]? = some (.int .i64 (o.getD y 0:Nat)):=rowN_get (by omega)
    have e2:=orI_nat (a:=2^y) (b:=o.getD y 0) (by have:=two_pow_le (k:=y) (by omega);omega) (by have:=holt y;omega)
    have e3:=orI_nat (a:=o.getD i 0) (b:=2^y|||o.getD y 0) (by have:=holt i;omega) (by have:=Nat.or_lt_two_pow (n:=13) (x:=2^y) (y:=o.getD y 0) (Nat.pow_lt_pow_right (by decide) (by omega)) (by have:=holt y;omega);omega)
    have kb:=hbk3.bk
    have hol':(o.map natV).length=after.length:=by rw[List.length_map];exact hol
    clear hbk3 hel hnat htl holt hran
    (repeat' first|((with_reducible refine wpd_at 10 ?_);refine wpd_tail 13 KR KR KR ?_)|(with_reducible first|exact⟨⟩|(refine gB ?_;intros)|refine gT ?_ ?_)|refine gs ?_|simp(maxDischargeDepth:=3) only[↓X,↓Y,↓Q,S1,↓reduceIte,Nat.reduceEqDiff,Nat.reduceAdd,Int.reduceLT,Int.reduceLE,Int.reduceNeg,Int.reduceBEq,Int.reduceBNe,Int.reduceEq,Nat.reduceLeDiff,Nat.reduceMul,Nat.reduceLT, *,hy]|simp(singlePass:=true) (maxDischargeDepth:=99) only[*,S2,Nat.reduceLT,hy])
    refine st_one KR (by rw[hol'];exact hlt2) rfl λw9 n9 k9 s9=>?_
    rw[rowN_set] at k9
    have hb9:Blk w9 b 3 ((befS i o y).map natV):=k9.2.1 _ k9.2.2.1
    clear k9 kb g1 g2
    (repeat' first|(with_reducible first|exact⟨⟩|(refine gB ?_;intros)|refine gT ?_ ?_)|refine gs ?_|refine sx ?_)
    refine next_b hk3 hlt3 ?_ FR
    (repeat' first|(with_reducible first|exact⟨⟩|(refine gB ?_;intros)|refine gT ?_ ?_)|refine gs ?_|refine sx ?_)
    all_goals (rw[hstep.out];exact hb9)
   ·rintro g3 w3 n3 s3 c3 hbl3 ⟨hi3,hf3,hbk3⟩
    simp(maxDischargeDepth:=3) only[U,↓reduceIte,Nat.reduceEqDiff, *] at hf3
    rw[List.take_of_length_le (by rw[natA_get hlt2,List.length_map];exact Nat.le_refl _),←befP_succ] at hbk3
    (repeat' first|(with_reducible first|exact⟨⟩|(refine gB ?_;intros)|refine gT ?_ ?_)|refine gs ?_|refine sx ?_)
    refine next_b hk2 hlt2 ?_ FR
    (repeat' first|(with_reducible first|exact⟨⟩|(refine gB ?_;intros)|refine gT ?_ ?_)|refine gs ?_|refine sx ?_)
    all_goals exact hbk3
  ·rintro g1 w2 n2 s2 c2 hww2 ⟨hi2,hf2,hbk2⟩
   simp(maxDischargeDepth:=3) only[U,↓reduceIte,Nat.reduceEqDiff, *] at hf2
   have hb3:Blk w2 b 3 ((befN (natA after) (r+1)).map natV):=by
    simp only[befN,natA_len]
    exact hbk2
   clear hbk2
   (repeat' first|(with_reducible first|exact⟨⟩|(refine gB ?_;intros)|refine gT ?_ ?_)|refine gs ?_|refine sx ?_)
   refine next_b hk hlt ?_ FR
   (repeat' first|(with_reducible first|exact⟨⟩|(refine gB ?_;intros)|refine gT ?_ ?_)|refine gs ?_|refine sx ?_)
   all_goals exact hb3
 ·rintro g wk nk sk ck hww ⟨hi,hf,hbk⟩
  simp(maxDischargeDepth:=3) only[U,↓reduceIte,Nat.reduceEqDiff, *] at hf
  have hb3:Blk wk b 3 ((bef (natA after)).map natV):=by
   unfold bef
   rw[natA_len]
   exact hbk
  clear hbk
  (repeat' first|(with_reducible first|exact⟨⟩|(refine gB ?_;intros)|refine gT ?_ ?_)|refine gs ?_|refine sx ?_)
  exact⟨_,rfl,hb3,q1.2.1 _ (Nat.le_refl _)⟩
theorem refErr_cases:(12<after.length→refErr after=1)∧(¬12<after.length→(∀k (h:k<after.length) j (hj:j+1<after[k].length),¬after[k][j]<after[k][j+1]→refErr after=1) ∧
 ((∀k (h:k<after.length) j (hj:j+1<after[k].length),after[k][j]<after[k][j+1])→(∀i (h:i<after.length),∀k∈after[i],offB after.length i k=true→refErr after=2) ∧
 ((∀i (h:i<after.length),∀k∈after[i],offB after.length i k=false)→(∀i,i<after.length→((bef (natA after)).getD i 0).testBit i=true→refErr after=12)∧((∀i,i<after.length→((bef (natA after)).getD i 0).testBit i=false)→refErr after=0)))):=by
 refine⟨λh=>by simp[refErr,h],λh12=>⟨λk h j hj hn=>?_,λhasc=>?_⟩⟩
 ·have:after.all ascL=false:=by
   rw[List.all_eq_false]
   exact⟨_,List.getElem_mem h,λha=>hn (ascL_iff.1 ha j hj)⟩
  simp[refErr,h12,this]
 ·have ha:after.all ascL=true:=by
   rw[List.all_eq_true]
   intro l hl
   obtain⟨k,hk,rfl⟩:=List.getElem_of_mem hl
   exact ascL_iff.2 λj hj=>hasc k hk j hj
  refine⟨λi hi k hk ho=>?_,λhoff=>?_⟩
  ·have:badB after.length 0 after=true:=badB_iff.2 ⟨i,hi,k,hk,by rw[Nat.zero_add];exact ho⟩
   simp[refErr,h12,ha,this]
  ·have hb:badB after.length 0 after=false:=by
    rw[←Bool.not_eq_true,badB_iff]
    rintro⟨i,hi,k,hk,ho⟩
    rw[Nat.zero_add,hoff i hi k hk] at ho
    cases ho
   refine⟨λi hi ht=>?_,λhn=>?_⟩
   ·have:cycB after=true:=List.any_eq_true.2 ⟨i,List.mem_range.2 hi,ht⟩
    simp[refErr,h12,ha,hb,this]
   ·have:cycB after=false:=by
     rw[cycB,List.any_eq_false]
     intro i hi
     rw[hn i (List.mem_range.1 hi)]
     decide
    simp[refErr,h12,ha,hb,this]
theorem ref10Valid(hB:B≤w.heap.size)(hv:LLR w B v vs after):Ret Tryz.prog 142 #[v] w (intV (ofS after).1):=by
 have⟨hn,hx⟩:=bg0 w
 rw[←refErr_eq]
 have hl:=hv.len_
 have hl3:lenN v=after.length:=hl.2.2
 have hl1:=hl.1
 have hl2:=hl.2.1
 have hg:=λw' (h:Bl B w w') (k:Nat) (hk:k<after.length)=>(hv.blz h).get hk
 have hV:=λw' (h:Bl B w w')=>hv.blz h
 replace hg:Hid _:=hg
 replace hV:Hid _:=hV
 have hc:=refErr_cases (after:=after)
 generalize refErr after=E at *
 replace hc:Hid _:=hc
 have hmax:after.length≤9223372036854775807:=hv.max_
 have hbw:Bl B w w:=Bl.refl hB
 clear hl
 (refine callsV_of Tryz.func142 rfl KR KR ?_;rw[Tryz.results142])
 by_cases h12:12<after.length
 ·obtain rfl:=hc.out.1 h12
  have:(12:Int)<(after.length:Int):=by omega
  (repeat' first|(with_reducible first|exact⟨⟩|(refine gB ?_;intros)|refine gT ?_ ?_)|refine gs ?_|refine sx ?_)
 have hc2:=hc.out.2 h12
 have h12i:¬(12:Int)<(after.length:Int):=by omega
 replace hc2:Hid _:=hc2
 clear hc
 (repeat' first|(with_reducible first|exact⟨⟩|(refine gB ?_;intros)|refine gT ?_ ?_)|refine gs ?_|refine sx ?_)
 refine loop_k (after.length) (λg0 k g _=>g 17=.int .i64 k∧(g 0=g0 0∧g 15=g0 15∧g 16=g0 16)∧Hid (∀a (h:a<after.length) j (hj:j+1<after[a].length),a<k→after[a][j]<after[a][j+1])) KR (hmax) ?_ ?_ ?_
 ·(repeat' first|(with_reducible first|exact⟨⟩|(refine gB ?_;intros)|refine gT ?_ ?_)|refine gs ?_|refine sxRef101 ?_)
  exact λa _ j _ h=>absurd h (by omega)
 ·rintro k m g wk hk hlt _ _ _ hw ⟨hi,hf,hp⟩
  simp(maxDischargeDepth:=3) only[U,↓reduceIte,Nat.reduceEqDiff, *] at hf
  obtain⟨z,hz,hsz⟩:=hg.out wk FR k hlt
  have hz':=hsz.k FR
  have hzm:after[k].length≤9223372036854775807:=by simpa using hsz.maxLen
  (repeat' first|(with_reducible first|exact⟨⟩|(refine gB ?_;intros)|refine gT ?_ ?_)|refine gs ?_|refine sx ?_)
  refine loop_k (after[k].length - 1) (λg0 j g _=>g 5=.int .i64 ((j+1:Nat):Int)∧(g 0=g0 0∧g 4=g0 4∧g 15=g0 15∧g 16=g0 16∧g 17=g0 17)∧Hid (∀a (h:a+1<after[k].length),a<j→after[k][a]<after[k][a+1])) KR (by omega) ?_ ?_ ?_
  ·(repeat' first|(with_reducible first|exact⟨⟩|(refine gB ?_;intros)|refine gT ?_ ?_)|refine gs ?_|refine sx ?_)
   exact⟨rfl,λa _ h=>absurd h (by omega)⟩
  ·rintro j m2 g2 w2 hk2 hlt2 n2 s2 b2 hw2 ⟨hi2,hf2,hp2⟩
   simp(maxDischargeDepth:=3) only[U,↓reduceIte,Nat.reduceEqDiff, *] at hf2
   have hj1:j+1<after[k].length:=by omega
   have hj0:j<after[k].length:=by omega
   have hw3:IntKind.i64.wrap (((j+1:Nat):Int)+1)=((j+1+1:Nat):Int):=by rw[wrap_i64_id]<;>omega
   have hw4:IntKind.i64.wrap (((j+1:Nat):Int) - 1)=(j:Int):=by rw[wrap_i64_id]<;>omega
   (repeat' first|(with_reducible first|exact⟨⟩|(refine gB ?_;intros)|refine gT ?_ ?_)|refine gs ?_|refine sx ?_)
   ·rw[hc2.out.1 k hlt j hj1 (by omega)]
   ·refine next_k hk2 hlt2 ?_ FR
    (repeat' first|(with_reducible first|exact⟨⟩|(refine gB ?_;intros)|refine gT ?_ ?_)|refine gs ?_|refine sx ?_)
    all_goals (intro a h ha;rcases Nat.lt_or_eq_of_le (Nat.le_of_lt_succ ha) with h1|rfl;exact hp2.out a h h1;omega)
  ·rintro g2 w2 n2 s2 b2 ⟨hi2,hf2,hp2⟩
   simp(maxDischargeDepth:=3) only[U,↓reduceIte,Nat.reduceEqDiff, *] at hf2
   have hj1:¬after[k].length - 1+1<after[k].length:=by omega
   (repeat' first|(with_reducible first|exact⟨⟩|(refine gB ?_;intros)|refine gT ?_ ?_)|refine gs ?_|refine sx ?_)
   refine next_k hk hlt ?_ FR
   (repeat' first|(with_reducible first|exact⟨⟩|(refine gB ?_;intros)|refine gT ?_ ?_)|refine gs ?_|refine sx ?_)
   all_goals
    intro a h j hj ha
    rcases Nat.lt_or_eq_of_le (Nat.le_of_lt_succ ha) with h1|rfl
    ·exact hp.out a h j hj h1
    ·exact hp2.out j hj (by omega)
 ·rintro g wk _ _ _ ⟨hi,hf,hp⟩
  simp(maxDischargeDepth:=3) only[U,↓reduceIte,Nat.reduceEqDiff, *] at hf
  have hc3:=hc2.out.2 λk h j hj=>hp.out k h j hj h
  replace hc3:Hid _:=hc3
  clear hp hc2
  (repeat' first|(with_reducible first|exact⟨⟩|(refine gB ?_;intros)|refine gT ?_ ?_)|refine gs ?_|refine sx ?_)
  refine loop_k (after.length) (λg0 k g _=>g 40=.int .i64 k∧(g 0=g0 0∧g 38=g0 38∧g 39=g0 39)∧Hid (∀a (h:a<after.length),a<k→∀x∈after[a],offB after.length a x=false)) KR (hmax) ?_ ?_ ?_
  ·(repeat' first|(with_reducible first|exact⟨⟩|(refine gB ?_;intros)|refine gT ?_ ?_)|refine gs ?_|refine sxRef101 ?_)
   exact λa _ h=>absurd h (by omega)
  ·rintro k m g wk hk hlt _ _ _ hw ⟨hi,hf,hp⟩
   simp(maxDischargeDepth:=3) only[U,↓reduceIte,Nat.reduceEqDiff, *] at hf
   obtain⟨z,hz,hsz⟩:=hg.out wk FR k hlt
   have hz':=hsz.k FR
   have hzm:after[k].length≤9223372036854775807:=by simpa using hsz.maxLen
   (repeat' first|(with_reducible first|exact⟨⟩|(refine gB ?_;intros)|refine gT ?_ ?_)|refine gs ?_|refine sx ?_)
   refine loop_k after[k].length (λg0 j g _=>g 47=.int .i64 j∧(g 0=g0 0∧g 6=g0 6∧g 38=g0 38∧g 39=g0 39∧g 40=g0 40∧g 45=g0 45∧g 46=g0 46)∧Hid (∀t (h:t<after[k].length),t<j→offB after.length k after[k][t]=false)) KR hzm ?_ ?_ ?_
   ·(repeat' first|(with_reducible first|exact⟨⟩|(refine gB ?_;intros)|refine gT ?_ ?_)|refine gs ?_|refine sx ?_)
    exact λa _ h=>absurd h (by omega)
   ·rintro j m2 g2 w2 hk2 hlt2 n2 s2 b2 hw2 ⟨hi2,hf2,hp2⟩
    simp(maxDischargeDepth:=3) only[U,↓reduceIte,Nat.reduceEqDiff, *] at hf2
    (repeat' first|(with_reducible first|exact⟨⟩|(refine gB ?_;intros)|refine gT ?_ ?_)|refine gs ?_|refine sx ?_)
    all_goals first
     |(rw[hc3.out.1 k hlt _ (List.getElem_mem hlt2) (by simp[offB];omega)];done)
     |(
      refine next_k hk2 hlt2 ?_ FR
      (repeat' first|(with_reducible first|exact⟨⟩|(refine gB ?_;intros)|refine gT ?_ ?_)|refine gs ?_|refine sx ?_)
      all_goals (intro a h ha;rcases Nat.lt_or_eq_of_le (Nat.le_of_lt_succ ha) with h1|rfl;exact hp2.out a h h1;simp[offB];omega))
   ·rintro g2 w2 n2 s2 b2 ⟨hi2,hf2,hp2⟩
    simp(maxDischargeDepth:=3) only[U,↓reduceIte,Nat.reduceEqDiff, *] at hf2
    (repeat' first|(with_reducible first|exact⟨⟩|(refine gB ?_;intros)|refine gT ?_ ?_)|refine gs ?_|refine sx ?_)
    refine next_k hk hlt ?_ FR
    (repeat' first|(with_reducible first|exact⟨⟩|(refine gB ?_;intros)|refine gT ?_ ?_)|refine gs ?_|refine sx ?_)
    all_goals
     intro a h ha x hx
     rcases Nat.lt_or_eq_of_le (Nat.le_of_lt_succ ha) with h1|rfl
     ·exact hp.out a h h1 x hx
     ·obtain⟨y,hy,rfl⟩:=List.getElem_of_mem hx
      exact hp2.out y hy hy
  ·rintro g wk _ _ _ ⟨hi,hf,hp⟩
   simp(maxDischargeDepth:=3) only[U,↓reduceIte,Nat.reduceEqDiff, *] at hf
   have hc4:=hc3.out.2 λi h k hk=>hp.out i h h k hk
   have hran:∀i (h:i<after.length),∀k∈after[i],0≤k∧k<after.length:=λi h k hk=>by
    have:=hp.out i h h k hk
    simp[offB] at this
    omega
   have hal:∀i k,k∈(natA after).getD i []→k<12:=λi k hk=>by
    have hi:i<after.length:=by have:=mem_lt hk;rwa [natA_len] at this
    rw[natA_get hi] at hk
    obtain⟨y,hy,rfl⟩:=List.mem_map.1 hk
    have:=hran i hi y hy
    omega
   have hlt4:∀x,(bef (natA after)).getD x 0<4096:=befN_lt hal _
   have hbl:(bef (natA after)).length=after.length:=by rw[bef,befN_len,natA_len]
   replace hc4:Hid _:=hc4
   replace hran:Hid _:=hran
   clear hp hc3 hal
   (repeat' first|(with_reducible first|exact⟨⟩|(refine gB ?_;intros)|refine gT ?_ ?_)|refine gs ?_|refine sx ?_)
   refine call_k (ref10before (B:=B) FR (hV.out _ FR) (by omega) hran.out) ?_
   rintro _ w6 n6 s6 ⟨b,rfl,hbk,hbs⟩
   have kb:=hbk.bk
   generalize bef (natA after)=O at *
   replace hlt4:Hid _:=hlt4
   clear hbk
   (repeat' first|(with_reducible first|exact⟨⟩|(refine gB ?_;intros)|refine gT ?_ ?_)|refine gs ?_|refine sx ?_)
   refine loop_k (after.length) (λg0 k g _=>g 69=.int .i64 k∧(g 67=g0 67∧g 68=g0 68)∧Hid (∀i,i<k→(O.getD i 0).testBit i=false)) KR (hmax) ?_ ?_ ?_
   ·(repeat' first|(with_reducible first|exact⟨⟩|(refine gB ?_;intros)|refine gT ?_ ?_)|refine gs ?_|refine sxRef101 ?_)
    exact λa h=>absurd h (by omega)
   ·rintro k m g wk hk hlt _ _ _ hw ⟨hi,hf,hp⟩
    simp(maxDischargeDepth:=3) only[U,↓reduceIte,Nat.reduceEqDiff, *] at hf
    have g1:(O.map natV)[k]? = some (.int .i64 (O.getD k 0:Nat)):=rowN_get (by omega)
    have e:=bit_eq1 (a:=O.getD k 0) (k:=k) (by have:=hlt4.out k;omega) (by omega)
    (repeat' first|(with_reducible first|exact⟨⟩|(refine gB ?_;intros)|refine gT ?_ ?_)|refine gs ?_|refine sx ?_)
    ·rename_i hb
     rw[hc4.out.1 k (by omega) hb]
    ·rename_i hb
     refine next_k hk hlt ?_ FR
     (repeat' first|(with_reducible first|exact⟨⟩|(refine gB ?_;intros)|refine gT ?_ ?_)|refine gs ?_|refine sx ?_)
     all_goals (intro i hi;rcases Nat.lt_or_eq_of_le (Nat.le_of_lt_succ hi) with h1|rfl;exact hp.out i h1;exact hb)
   ·rintro g wk _ _ _ ⟨hi,hf,hp⟩
    simp(maxDischargeDepth:=3) only[U,↓reduceIte,Nat.reduceEqDiff, *] at hf
    (repeat' first|(with_reducible first|exact⟨⟩|(refine gB ?_;intros)|refine gT ?_ ?_)|refine gs ?_|refine sx ?_)
    rw[hc4.out.2 λi hi=>hp.out i hi]
end
end Go.Proofs.YtphciegaokdolaaGreatDoor
