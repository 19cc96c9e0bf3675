/- The layer plan: Valid, open, ideal, asked, enabled, Ideals, Enabled. -/
import Derived.Test.YtphciegaokdolaaGreatDoorStep
import Derived.Test.YtphciegaokdolaaGreatDoorOrd
namespace Go.Proofs.YtphciegaokdolaaGreatDoor
set_option linter.unusedSimpArgs false
set_option linter.unusedVariables false
open Go Go.RowKit
set_option maxRecDepth 100000
set_option linter.unusedSectionVars false
theorem orderValid{w:World}{B:Nat}{v:Value}{vs:List Value}{after:List (List Int)}(hT:TabW w)(hB:B≤w.heap.size)(hv:LLR w B v vs after):Ret Tryz.prog 114 #[v] w (intV (ofS after).1):=by
 (refine callsV_of Tryz.func114 rfl (by kernel_rfl) (by kernel_rfl) ?_;rw[Tryz.results114])
 simp only[↓X,↓Y,↓Q,S0,↓reduceIte,Nat.reduceEqDiff,Nat.reduceAdd,Int.reduceLT,Int.reduceLE,Int.reduceNeg,now w]
 refine CallsV.mono (orderOf hT hB hv) λr w1 ⟨hx1,nv,vd,va,hr,⟨h1,h2,h3⟩,_⟩=>?_
 subst hr
 simp only[↓X,↓Y,↓Q,S0,↓reduceIte,Nat.reduceEqDiff,Nat.reduceAdd,Int.reduceLT,Int.reduceLE,Int.reduceNeg,now w1]
 refine alloc_intro λb2 w2 hb2 hx2 hn2=>?_
 simp only[↓X,↓Y,↓Q,S0,↓reduceIte,Nat.reduceEqDiff,Nat.reduceAdd,Int.reduceLT,Int.reduceLE,Int.reduceNeg,now w2]
 refine storeAgg_intro (vs:=[nv,vd,va]) (by kernel_rfl) hb2 rfl (by simp only[natV,intV,List.mem_cons,List.not_mem_nil,or_false,forall_eq_or_imp,forall_eq,one_int,one_bool,one_slice,one_ptr,and_self,h1,h2,h3]) λw3 hb3 hc3=>?_
 simp only[↓X,↓Y,↓Q,S0,↓reduceIte,Nat.reduceEqDiff,Nat.reduceAdd,Int.reduceLT,Int.reduceLE,Int.reduceNeg,now w3]
 exact(hx1.trans hx2).trans' (hc3.below (Nat.le_trans hx1.size hn2) (hx1.trans hx2).size)
def planErrE(e:Int)(s:SiteD)(wl:List ServiceD)(p:PlanD):Int:=
 if siteB s&&wishB wl then
  if 12<p.steps.length then 3
  else if p.after.length=p.steps.length∧p.steps.all (stepB s wl)=true then e else 1
 else 1
def planErr(s:SiteD)(wl:List ServiceD)(p:PlanD):Int:=planErrE (ofS p.after).1 s wl p
structure PlanR (w:World) (B:Nat) (sv av:Value) (vs:List Value) (p:PlanD):Prop where
 s:Sl w B (some 4) 4 sv (p.steps.map stepV)
 a:LLR w B av vs p.after
theorem PlanR.ext{w w':World}{B:Nat}{sv av:Value}{vs:List Value}{p:PlanD}(h:PlanR w B sv av vs p)(hx:Ext w w')(hB:B≤w.heap.size):PlanR w' B sv av vs p:=⟨h.s.ext hx hB,h.a.ext hx hB⟩
theorem planValid1{w:World}{B b3 b4:Nat}{u:SiteVs}{s:SiteD}{wv:Value}{l:List SrvV}{st:StepD}(hB:B≤w.heap.size)(hs:SiteR w B u s)(hl:WishR w B wv l)(hb3:Blk w b3 29 (siteC u s))(hb4:Blk w b4 32 [wv]) :
 Ret Tryz.prog 112 #[stepV st,.pointer (some ⟨b3,0,none⟩),.pointer (some ⟨b4,0,none⟩)] w (.bool (!stepB s (l.map (·.x)) st)):=by
 (refine callsV_of Tryz.func112 rfl (by kernel_rfl) (by kernel_rfl) ?_;rw[Tryz.results112])
 simp only[↓X,↓Y,↓Q,S0,↓reduceIte,Nat.reduceEqDiff,Nat.reduceAdd,Int.reduceLT,Int.reduceLE,Int.reduceNeg,now w,stepV,stepC]
 refine alloc_intro λb1 w1 hb1 hx1 _=>?_
 simp only[↓X,↓Y,↓Q,S0,↓reduceIte,Nat.reduceEqDiff,Nat.reduceAdd,Int.reduceLT,Int.reduceLE,Int.reduceNeg,now w1,hb1.cell,(hb3.ext hx1).cell,(hb4.ext hx1).cell,siteC]
 refine ret_bind' hx1 (stepValid (Nat.le_trans hB hx1.size) (hs.ext hx1 hB) (hl.ext hx1 hB)) λw2 hx2=>?_
 simp only[↓X,↓Y,↓Q,S0,↓reduceIte,Nat.reduceEqDiff,Nat.reduceAdd,Int.reduceLT,Int.reduceLE,Int.reduceNeg,now w2]
 (repeat' apply And.intro)<;>first|rfl|assumption
set_option maxHeartbeats 1000000
section
variable{w:World}{B:Nat}{u:SiteVs}{s:SiteD}{wv sv av:Value}{vs:List Value}{l:List SrvV}{p:PlanD}(hT:TabW w)(hB:B≤w.heap.size)(hs:SiteR w B u s)(hl:WishR w B wv l)(hp:PlanR w B sv av vs p)
include hT hB hs hl hp
theorem planValid_core{e:Int}(hov:∀w',Ext w w'→Ret Tryz.prog 114 #[av] w' (intV e)):Ret Tryz.prog 60 #[.agg (siteC u s).toArray,.agg #[wv],.agg #[sv,av]] w (intV (planErrE e s (l.map (·.x)) p)):=by
 (refine callsV_of Tryz.func60 rfl (by kernel_rfl) (by kernel_rfl) ?_;rw[Tryz.results60])
 simp only[↓X,↓Y,↓Q,S0,↓reduceIte,Nat.reduceEqDiff,Nat.reduceAdd,Int.reduceLT,Int.reduceLE,Int.reduceNeg,now w,siteC]
 refine alloc_intro λb1 w1 hb1 hx1 _=>?_
 simp only[↓X,↓Y,↓Q,S0,↓reduceIte,Nat.reduceEqDiff,Nat.reduceAdd,Int.reduceLT,Int.reduceLE,Int.reduceNeg,now w1]
 refine alloc_intro λb2 w2 hb2 hx2 _=>?_
 simp only[↓X,↓Y,↓Q,S0,↓reduceIte,Nat.reduceEqDiff,Nat.reduceAdd,Int.reduceLT,Int.reduceLE,Int.reduceNeg,now w2]
 refine alloc_intro λb3 w3 hb3 hx3 _=>?_
 have hb1:=hb1.ext (hx2.trans hx3)
 have hb2:=hb2.ext hx3
 have hx3':=hx1.trans (hx2.trans hx3)
 have hs3:=hs.ext hx3' hB
 have hl3:=hl.ext hx3' hB
 have hp3:=hp.ext hx3' hB
 have hB3:=Nat.le_trans hB hx3'.size
 simp only[↓X,↓Y,↓Q,S0,↓reduceIte,Nat.reduceEqDiff,Nat.reduceAdd,Int.reduceLT,Int.reduceLE,Int.reduceNeg,now w3,hb1.cell]
 refine ret_bind' (Ext.refl w3) (siteValid hB3 hs3) λw4 hx4=>?_
 cases c1:siteB s
 ·simp only[↓X,↓Y,↓Q,S0,↓reduceIte,Nat.reduceEqDiff,Nat.reduceAdd,Int.reduceLT,Int.reduceLE,Int.reduceNeg,now w4,c1,(hb2.ext hx4).cell]
  exact⟨by simp[planErrE,c1,intV],hx3'.trans hx4⟩
 simp only[↓X,↓Y,↓Q,S0,↓reduceIte,Nat.reduceEqDiff,Nat.reduceAdd,Int.reduceLT,Int.reduceLE,Int.reduceNeg,now w4,c1,(hb2.ext hx4).cell]
 refine ret_bind' hx4 (worldValidWish (Nat.le_trans hB3 hx4.size) (hl3.ext hx4 hB3)) λw5 hx5=>?_
 cases c2:wishB (l.map (·.x))
 ·simp only[↓X,↓Y,↓Q,S0,↓reduceIte,Nat.reduceEqDiff,Nat.reduceAdd,Int.reduceLT,Int.reduceLE,Int.reduceNeg,now w5,c2,(hb3.ext hx5).cell,hp.s.len_]
  exact⟨by simp[planErrE,c2,intV],hx3'.trans hx5⟩
 simp only[↓X,↓Y,↓Q,S0,↓reduceIte,Nat.reduceEqDiff,Nat.reduceAdd,Int.reduceLT,Int.reduceLE,Int.reduceNeg,now w5,c2,(hb3.ext hx5).cell,hp.s.len_]
 have hx5':=hx3'.trans hx5
 rcases Bool.eq_false_or_eq_true (decide (12<(p.steps.length:Int))) with c3|c3
 ·simp only[↓X,↓Y,↓Q,S0,↓reduceIte,Nat.reduceEqDiff,Nat.reduceAdd,Int.reduceLT,Int.reduceLE,Int.reduceNeg,now w5,c3,(hb3.ext hx5).cell,hp.s.len_,hp.a.len_]
  exact⟨by have:=of_decide_eq_true c3;simp only[planErrE,c1,c2,Bool.and_self,if_true,intV];rw[if_pos (by omega)],hx5'⟩
 simp only[↓X,↓Y,↓Q,S0,↓reduceIte,Nat.reduceEqDiff,Nat.reduceAdd,Int.reduceLT,Int.reduceLE,Int.reduceNeg,now w5,c3,(hb3.ext hx5).cell,hp.s.len_,hp.a.len_]
 have n12:¬12<p.steps.length:=by have:=of_decide_eq_false c3;omega
 rcases Bool.eq_false_or_eq_true ((p.after.length:Int) != (p.steps.length:Int)) with c4|c4
 ·simp only[↓X,↓Y,↓Q,S0,↓reduceIte,Nat.reduceEqDiff,Nat.reduceAdd,Int.reduceLT,Int.reduceLE,Int.reduceNeg,now w5,c4,(hb3.ext hx5).cell,hp.s.len_,hp.a.len_]
  exact⟨by have:¬p.after.length=p.steps.length:=(by simp at c4;omega);simp[planErrE,c1,c2,n12,this,intV],hx5'⟩
 simp only[↓X,↓Y,↓Q,S0,↓reduceIte,Nat.reduceEqDiff,Nat.reduceAdd,Int.reduceLT,Int.reduceLE,Int.reduceNeg,now w5,c4,(hb3.ext hx5).cell,hp.s.len_,hp.a.len_]
 have c4':p.after.length=p.steps.length:=by simp at c4;omega
 have hB5:=Nat.le_trans hB3 hx5.size
 have hst:∀st∈p.steps,∀w',Ext w5 w'→Ret Tryz.prog 112 (stepV st::[.pointer (some ⟨b1,0,none⟩),.pointer (some ⟨b2,0,none⟩)]).toArray w' (.bool (!stepB s (l.map (·.x)) st)):=λst _ w' hx'=>
  planValid1 (Nat.le_trans hB5 hx'.size) (hs3.ext (hx5.trans hx') hB3) (hl3.ext (hx5.trans hx') hB3) (hb1.ext (hx5.trans hx')) (hb2.ext (hx5.trans hx'))
 have hss:Sl w5 B (some 4) 4 sv (p.steps.map stepV):=hp3.s.ext hx5 hB3
 have hcal:callable Tryz.prog 112=true:=by kernel_rfl
 have hcf:=containsNot_Step hB5 hss hcal hst
 refine ret_bind' hx5 hcf λw6 hx6=>?_
 cases c5:p.steps.all (stepB s (l.map (·.x)))
 ·simp only[↓X,↓Y,↓Q,S0,↓reduceIte,Nat.reduceEqDiff,Nat.reduceAdd,Int.reduceLT,Int.reduceLE,Int.reduceNeg,now w6]
  exact⟨by simp only[planErrE,c1,c2,c5,n12,intV];simp,hx3'.trans hx6⟩
 ·simp only[↓X,↓Y,↓Q,S0,↓reduceIte,Nat.reduceEqDiff,Nat.reduceAdd,Int.reduceLT,Int.reduceLE,Int.reduceNeg,now w6,(hb3.ext hx6).cell]
  refine ret_bind' hx6 (hov _ (hx3'.trans hx6)) λw7 hx7=>?_
  simp only[↓X,↓Y,↓Q,S0,↓reduceIte,Nat.reduceEqDiff,Nat.reduceAdd,Int.reduceLT,Int.reduceLE,Int.reduceNeg,now w7,intV]
  exact⟨by simp only[planErrE,c1,c2,c5,n12,c4'];simp,hx3'.trans hx7⟩
theorem planValid:Ret Tryz.prog 60 #[.agg (siteC u s).toArray,.agg #[wv],.agg #[sv,av]] w (intV (planErr s (l.map (·.x)) p)):=
 planValid_core hT hB hs hl hp λ_ hx=>orderValid (hT.ext hx) (Nat.le_trans hB hx.size) (hp.a.ext hx hB)
end
structure Shape (p:PlanD):Prop where
 len:p.after.length=p.steps.length
 small:p.steps.length≤12
 range:∀l∈p.after,∀k∈l,0≤k∧k<(p.steps.length:Int)
def openB(p:PlanD)(set i:Nat):Bool:=(p.after.getD i []).all λk=>set.testBit k.toNat
def idealB(p:PlanD)(set:Nat):Bool:=decide (set<2^p.steps.length)&&decide (∀i,i<p.steps.length→set.testBit i=true→openB p set i=true)
def idealI(p:PlanD)(x:Int):Bool:=decide (0≤x)&&idealB p x.toNat
def enabledL(p:PlanD)(set:Nat):List Nat:=(List.range p.steps.length).filter λi=>!set.testBit i&&openB p set i
section
variable{w:World}{B:Nat}{sv av:Value}{vs:List Value}{p:PlanD}(hB:B≤w.heap.size)(hp:PlanR w B sv av vs p)(ho:Shape p)
include hB hp ho
omit hB hp ho in
theorem planOpen1{w:World}{b set:Nat}{k:Int}(hk0:0≤k)(hk1:k<62)(hs:set<4096)(hb:Blk w b 3 [natV set]):Ret Tryz.prog 173 #[intV k,.pointer (some ⟨b,0,none⟩)] w (.bool (!set.testBit k.toNat)):=by
 (refine callsV_of Tryz.func173 rfl (by kernel_rfl) (by kernel_rfl) ?_;rw[Tryz.results173])
 obtain⟨y,rfl⟩:=Int.eq_ofNat_of_zero_le hk0
 have e:=bit_eq0 (a:=set) (k:=y) (by omega) (by omega)
 simp only[↓X,↓Y,↓Q,S0,↓reduceIte,Nat.reduceEqDiff,Nat.reduceAdd,Int.reduceLT,Int.reduceLE,Int.reduceNeg,now w,hb.cell,natV,intV,e]
 (repeat' apply And.intro)<;>first|rfl|assumption|exact Ext.refl _
theorem planOpen{set i:Nat}(hs:set<4096)(hi:i<p.steps.length):Ret Tryz.prog 111 #[.agg #[sv,av],natV set,natV i] w (.bool (openB p set i)):=by
 (refine callsV_of Tryz.func111 rfl (by kernel_rfl) (by kernel_rfl) ?_;rw[Tryz.results111])
 simp only[↓X,↓Y,↓Q,S0,↓reduceIte,Nat.reduceEqDiff,Nat.reduceAdd,Int.reduceLT,Int.reduceLE,Int.reduceNeg,now w,natV,intV]
 refine alloc_intro λb1 w1 hb1 hx1 _=>?_
 simp only[↓X,↓Y,↓Q,S0,↓reduceIte,Nat.reduceEqDiff,Nat.reduceAdd,Int.reduceLT,Int.reduceLE,Int.reduceNeg,now w1]
 refine alloc_intro λb2 w2 hb2 hx2 _=>?_
 have hx:=hx1.trans hx2
 have ha:=hp.a.ext hx hB
 have hB2:=Nat.le_trans hB hx.size
 have hia:i<p.after.length:=by rw[ho.len];exact hi
 obtain⟨u,hu,hsu⟩:=ha.get hia
 simp only[↓X,↓Y,↓Q,S0,↓reduceIte,Nat.reduceEqDiff,Nat.reduceAdd,Int.reduceLT,Int.reduceLE,Int.reduceNeg,now w2,(hb1.ext hx2).cell,Int.ofNat_lt,hia,hp.a.len_,hu]
 have hst:∀k∈p.after[i],∀w',Ext w2 w'→Ret Tryz.prog 173 (intV k::[.pointer (some ⟨b2,0,none⟩)]).toArray w' (.bool (!set.testBit k.toNat)):=λk hk w' hx'=>by
  obtain⟨h1,h2⟩:=ho.range _ (List.getElem_mem hia) k hk
  exact planOpen1 h1 (by have:=ho.small;omega) hs (hb2.ext hx')
 have hcal:callable Tryz.prog 173=true:=by kernel_rfl
 refine ret_bind' hx (containsNot_int hB2 hsu hcal hst) λw3 hx3=>?_
 simp only[↓X,↓Y,↓Q,S0,↓reduceIte,Nat.reduceEqDiff,Nat.reduceAdd,Int.reduceLT,Int.reduceLE,Int.reduceNeg,now w3,Bool.not_not]
 exact⟨by simp[openB,List.getD_eq_getElem?_getD,List.getElem?_eq_getElem hia],hx3⟩
theorem planIdeal{x:Int}:Ret Tryz.prog 110 #[.agg #[sv,av],intV x] w (.bool (idealI p x)):=by
 (refine callsV_of Tryz.func110 rfl (by kernel_rfl) (by kernel_rfl) ?_;rw[Tryz.results110])
 have hsm:=ho.small
 have h2:=two_pow_le hsm
 have hsh:=shlI_nat (k:=p.steps.length) (by omega)
 simp only[↓X,↓Y,↓Q,S0,↓reduceIte,Nat.reduceEqDiff,Nat.reduceAdd,Int.reduceLT,Int.reduceLE,Int.reduceNeg,now w,intV]
 refine alloc_intro λb1 w1 hb1 hx1 _=>?_
 simp only[↓X,↓Y,↓Q,S0,↓reduceIte,Nat.reduceEqDiff,Nat.reduceAdd,Int.reduceLT,Int.reduceLE,Int.reduceNeg,now w1,hb1.cell]
 rcases Bool.eq_false_or_eq_true (decide (x<0)) with c1|c1
 ·simp only[↓X,↓Y,↓Q,S0,↓reduceIte,Nat.reduceEqDiff,Nat.reduceAdd,Int.reduceLT,Int.reduceLE,Int.reduceNeg,now w1,c1,hb1.cell]
  have:=of_decide_eq_true c1
  exact⟨by simp[idealI];omega,hx1⟩
 have c1':=of_decide_eq_false c1
 obtain⟨set,rfl⟩:=Int.eq_ofNat_of_zero_le (Int.not_lt.mp c1')
 rcases Bool.eq_false_or_eq_true (decide (((2^p.steps.length:Nat):Int)≤(set:Int))) with c2|c2
 ·simp only[↓X,↓Y,↓Q,S0,↓reduceIte,Nat.reduceEqDiff,Nat.reduceAdd,Int.reduceLT,Int.reduceLE,Int.reduceNeg,now w1,c1,c2,hb1.cell,hp.s.len_,hsh]
  have:=of_decide_eq_true c2
  exact⟨by simp[idealI,idealB];omega,hx1⟩
 have c2':set<2^p.steps.length:=by have:=of_decide_eq_false c2;omega
 simp only[↓X,↓Y,↓Q,S0,↓reduceIte,Nat.reduceEqDiff,Nat.reduceAdd,Int.reduceLT,Int.reduceLE,Int.reduceNeg,now w1,c1,c2,hb1.cell,hp.s.len_,hsh]
 refine loopX_intro (λm g w'=>∃(k:Nat),k+m=p.steps.length∧g 19=.int .i64 k∧g 18=.int .i64 p.steps.length∧g 1=.int .i64 set∧g 2=.pointer (some ⟨b1,0,none⟩)∧(∀i,i<k→set.testBit i=true→openB p set i=true)∧Ext w1 w') p.steps.length (by kernel_rfl) ?_ ?_
 ·refine⟨0,by omega,?_⟩
  simp only[↓X,↓Y,↓Q,S0,↓reduceIte,Nat.reduceEqDiff,Nat.reduceAdd,Int.reduceLT,Int.reduceLE,Int.reduceNeg]
  (repeat' apply And.intro)<;>first|rfl|assumption|exact λi h=>absurd h (by omega)|exact Ext.refl _
 ·rintro m g w2 ⟨k,hk,h19,h18,h1,h2',hall,hx2⟩
  by_cases hlt:k<p.steps.length
  ·have e:=bit_eq1 (a:=set) (k:=k) (by omega) (by omega)
   simp only[↓X,↓Y,↓Q,S0,↓reduceIte,Nat.reduceEqDiff,Nat.reduceAdd,Int.reduceLT,Int.reduceLE,Int.reduceNeg,now w2,h19,h18,h1,h2',Int.ofNat_lt,hlt,e,(hb1.ext hx2).cell]
   cases c3:set.testBit k
   ·simp only[↓X,↓Y,↓Q,S0,↓reduceIte,Nat.reduceEqDiff,Nat.reduceAdd,Int.reduceLT,Int.reduceLE,Int.reduceNeg,now w2,h19,h18,h1,h2',c3]
    refine⟨m - 1,by omega,k+1,?_⟩
    (repeat' apply And.intro)<;>first|rfl|assumption|omega|rw[wrap_succ hlt (by omega)]|(intro i hi hb;rcases Nat.lt_or_eq_of_le (Nat.le_of_lt_succ hi) with h|rfl;exact hall i h hb;rw[c3] at hb;cases hb)
   ·simp only[↓X,↓Y,↓Q,S0,↓reduceIte,Nat.reduceEqDiff,Nat.reduceAdd,Int.reduceLT,Int.reduceLE,Int.reduceNeg,now w2,h19,h18,h1,h2',c3,(hb1.ext hx2).cell]
    have hxx:=hx1.trans hx2
    refine ret_bind' hx2 (planOpen (Nat.le_trans hB hxx.size) (hp.ext hxx hB) ho (set:=set) (i:=k) (by omega) hlt) λw3 hx3=>?_
    cases c4:openB p set k
    ·simp only[↓X,↓Y,↓Q,S0,↓reduceIte,Nat.reduceEqDiff,Nat.reduceAdd,Int.reduceLT,Int.reduceLE,Int.reduceNeg,now w3,h19,h18,h1,h2']
     refine⟨?_,hx1.trans hx3⟩
     have:¬∀i,i<p.steps.length→set.testBit i=true→openB p set i=true:=λh=>by rw[h k hlt c3] at c4;cases c4
     simp[idealI,idealB,this]
    ·simp only[↓X,↓Y,↓Q,S0,↓reduceIte,Nat.reduceEqDiff,Nat.reduceAdd,Int.reduceLT,Int.reduceLE,Int.reduceNeg,now w3,h19,h18,h1,h2']
     refine⟨m - 1,by omega,k+1,?_⟩
     (repeat' apply And.intro)<;>first|rfl|assumption|omega|rw[wrap_succ hlt (by omega)]|(intro i hi hb;rcases Nat.lt_or_eq_of_le (Nat.le_of_lt_succ hi) with h|rfl;exact hall i h hb;exact c4)
  ·simp only[↓X,↓Y,↓Q,S0,↓reduceIte,Nat.reduceEqDiff,Nat.reduceAdd,Int.reduceLT,Int.reduceLE,Int.reduceNeg,now w2,h19,h18,Int.ofNat_lt,hlt]
   have hk':k=p.steps.length:=by omega
   subst hk'
   exact⟨by simp only[idealI,idealB,Int.toNat_natCast,c2',decide_true,Bool.true_and,Int.natCast_nonneg];rw[decide_eq_true hall],hx1.trans hx2⟩
theorem planEnabled{set:Nat}(hs:set<4096):CallsV Tryz.prog 57 #[.agg #[sv,av],natV set] w λv w'=>Ext w w'∧Own w' w.heap.size 3 1 v ((enabledL p set).map natC):=by
 (refine callsV_of Tryz.func57 rfl (by kernel_rfl) (by kernel_rfl) ?_;rw[Tryz.results57])
 have hsm:=ho.small
 simp only[↓X,↓Y,↓Q,S0,↓reduceIte,Nat.reduceEqDiff,Nat.reduceAdd,Int.reduceLT,Int.reduceLE,Int.reduceNeg,now w,natV,intV]
 refine alloc_intro λb1 w1 hb1 hx1 _=>?_
 simp only[↓X,↓Y,↓Q,S0,↓reduceIte,Nat.reduceEqDiff,Nat.reduceAdd,Int.reduceLT,Int.reduceLE,Int.reduceNeg,now w1,hb1.cell,hp.s.len_]
 refine loopX_intro (λm g w'=>∃(k:Nat) (v:Value),k+m=p.steps.length∧g 10=.int .i64 k∧g 9=.int .i64 p.steps.length∧g 1=.int .i64 set∧g 2=.pointer (some ⟨b1,0,none⟩)∧g 5=v∧Own w' w.heap.size 3 1 v (((List.range k).filter λi=>!set.testBit i&&openB p set i).map natC)∧Blk w' b1 40 [sv,av]∧Ext w w') p.steps.length (by kernel_rfl) ?_ ?_
 ·refine⟨0,.slice none 0 0,by omega,?_⟩
  simp only[↓X,↓Y,↓Q,S0,↓reduceIte,Nat.reduceEqDiff,Nat.reduceAdd,Int.reduceLT,Int.reduceLE,Int.reduceNeg]
  (repeat' apply And.intro)<;>first|rfl|assumption|exact hx1|exact Own.nil _ _ _ _|exact hb1
 ·rintro m g w2 ⟨k,v,hk,h10,h9,h1,h2,h5,hown,hb1,hx2⟩
  by_cases hlt:k<p.steps.length
  ·have e:=bit_eq0 (a:=set) (k:=k) (by omega) (by omega)
   have hlen:((List.range k).filter λi=>!set.testBit i&&openB p set i).length≤k:=by have:=List.length_filter_le (λi=>!set.testBit i&&openB p set i) (List.range k);simpa using this
   have hfil:((List.range (k+1)).filter λi=>!set.testBit i&&openB p set i)=((List.range k).filter λi=>!set.testBit i&&openB p set i)++if (!set.testBit k&&openB p set k)=true then[k] else[]:=by
    rw[List.range_succ,List.filter_append]
    congr 1
    rw[List.filter_cons]
    split<;>simp_all
   simp only[↓X,↓Y,↓Q,S0,↓reduceIte,Nat.reduceEqDiff,Nat.reduceAdd,Int.reduceLT,Int.reduceLE,Int.reduceNeg,now w2,h10,h9,h1,h2,Int.ofNat_lt,hlt,e,hb1.cell]
   cases c3:set.testBit k
   ·simp only[↓X,↓Y,↓Q,S0,↓reduceIte,Nat.reduceEqDiff,Nat.reduceAdd,Int.reduceLT,Int.reduceLE,Int.reduceNeg,now w2,h10,h9,h1,h2,c3,hb1.cell]
    refine ret_bind' (Ext.refl w2) (planOpen (Nat.le_trans hB hx2.size) (hp.ext hx2 hB) ho (set:=set) (i:=k) (by omega) hlt) λw3 hx3=>?_
    cases c4:openB p set k
    ·simp only[↓X,↓Y,↓Q,S0,↓reduceIte,Nat.reduceEqDiff,Nat.reduceAdd,Int.reduceLT,Int.reduceLE,Int.reduceNeg,now w3,h10,h9,h1,h2,h5]
     refine⟨m - 1,by omega,k+1,v,?_⟩
     rw[hfil,c3,c4]
     (repeat' apply And.intro)<;>first|rfl|assumption|omega|rw[wrap_succ hlt (by omega)]|simpa using hown.ext hx3|exact hb1.ext hx3|exact hx2.trans hx3
    ·simp only[↓X,↓Y,↓Q,S0,↓reduceIte,Nat.reduceEqDiff,Nat.reduceAdd,Int.reduceLT,Int.reduceLE,Int.reduceNeg,now w3,h5,h10,h9,h1,h2,idxOk,flatP,cellsL,List.length_cons,List.length_nil,Nat.reduceMul,Nat.reduceLeDiff,Nat.reduceLT]
     refine row_intro λb4 w4 hb4 hx4 _=>?_
     simp only[↓X,↓Y,↓Q,S0,↓reduceIte,Nat.reduceEqDiff,Nat.reduceAdd,Int.reduceLT,Int.reduceLE,Int.reduceNeg,now w4,h5]
     have hx04:=hx2.trans (hx3.trans hx4)
     refine append_int (x:=k) (hown.ext (hx3.trans hx4)) hb4 rfl (by simp[natC,intV,one_int]) (by omega) hx04.size λv' w5 hown' hgr hbl _=>?_
     have hb1':=grown_blk hgr (hb1.ext (hx3.trans hx4)) ((hown.ext (hx3.trans hx4)).ne (hb1.ext (hx3.trans hx4)) (by decide))
     simp only[↓X,↓Y,↓Q,S0,↓reduceIte,Nat.reduceEqDiff,Nat.reduceAdd,Int.reduceLT,Int.reduceLE,Int.reduceNeg,now w5,h10,h9,h1,h2]
     refine⟨m - 1,by omega,k+1,v',?_⟩
     rw[hfil,c3,c4]
     (repeat' apply And.intro)<;>first|rfl|assumption|omega|rw[wrap_succ hlt (by omega)]|exact hx04.trans' hbl|simpa using hown'
   ·simp only[↓X,↓Y,↓Q,S0,↓reduceIte,Nat.reduceEqDiff,Nat.reduceAdd,Int.reduceLT,Int.reduceLE,Int.reduceNeg,now w2,h10,h9,h1,h2,h5,c3]
    refine⟨m - 1,by omega,k+1,v,?_⟩
    rw[hfil,c3]
    (repeat' apply And.intro)<;>first|rfl|assumption|omega|rw[wrap_succ hlt (by omega)]|simpa using hown
  ·simp only[↓X,↓Y,↓Q,S0,↓reduceIte,Nat.reduceEqDiff,Nat.reduceAdd,Int.reduceLT,Int.reduceLE,Int.reduceNeg,now w2,h10,h9,h5,Int.ofNat_lt,hlt]
   have hk':k=p.steps.length:=by omega
   subst hk'
   exact⟨hx2,hown⟩
end
open Go
theorem dirL_range{n i:Int}:∀{l:List Int} {s d:Nat},dirL n i s l=some d→∀k∈l,0≤k∧k<n∧k≠i
 |[],_,_,_,k,hk=>by simp at hk
 |a::l,s,d,h,k,hk=>by
  unfold dirL at h
  split at h
  ·cases h
  ·rename_i hc
   rcases List.mem_cons.1 hk with rfl|hk
   ·omega
   ·exact dirL_range h k hk
theorem dirL_bit{n i:Int}:∀{l:List Int} {s d:Nat},dirL n i s l=some d→∀b,d.testBit b=(s.testBit b||l.any λk=>k.toNat == b)
 |[],s,d,h,b=>by simp[dirL] at h;subst h;simp
 |a::l,s,d,h,b=>by
  unfold dirL at h
  split at h
  ·cases h
  ·rw[dirL_bit h b,Nat.testBit_or,Nat.testBit_two_pow,List.any_cons,Bool.or_assoc]
   congr 2
theorem dirs_get{n:Int}:∀{ll:List (List Int)} {i:Nat} {ds:List Nat},dirs n i ll=some ds→ds.length=ll.length∧∀j (h:j<ll.length),dirL n ((i+j:Nat):Int) 0 ll[j]=some (ds.getD j 0)
 |[],i,ds,h=>by simp[dirs] at h;subst h;simp
 |l::ll,i,ds,h=>by
  unfold dirs at h
  split at h
  ·cases h
  ·rename_i d hd
   cases hr:dirs n (i+1) ll with
   |none=>simp[hr] at h
   |some r=>
    simp[hr] at h
    subst h
    obtain⟨h1,h2⟩:=dirs_get hr
    refine⟨by simp[h1],λj hj=>?_⟩
    cases j with
    |zero=>simpa using hd
    |succ j=>
     have:=h2 j (by simpa using hj)
     rw[show i+1+j=i+(j+1) by omega] at this
     simpa using this
theorem ofS_ok{after:List (List Int)}(h:(ofS after).1=0):after.length≤12∧∃ds,dirs after.length 0 after=some ds∧(kahn ds after.length 4096 0 (List.replicate after.length 0)).1=0:=by
 unfold ofS at h
 split at h
 ·cases h
 ·rename_i h12
  split at h
  ·cases h
  ·split at h
   ·cases h
   ·rename_i d hd
    exact⟨by omega,d,hd,h⟩
theorem rdyF_has(done:Nat):∀(l:List Nat) (i j:Nat),(rdyF done i l).testBit j=true→i≤j∧j<i+l.length∧sub (l.getD (j - i) 0) done=0
 |[],i,j,h=>by simp[rdyF] at h
 |d::r,i,j,h=>by
  unfold rdyF at h
  rw[Nat.testBit_or] at h
  rcases Bool.or_eq_true _ _▸h with h|h
  ·split at h
   ·rename_i hc
    rw[Nat.testBit_two_pow] at h
    have:i=j:=by simpa using h
    subst this
    simp only[Bool.and_eq_true,beq_iff_eq] at hc
    exact⟨Nat.le_refl _,by simp,by simpa using hc.2⟩
   ·simp at h
  ·obtain⟨h1,h2,h3⟩:=rdyF_has done r (i+1) j h
   refine⟨by omega,by simp;omega,?_⟩
   rw[show j - i=(j - (i+1))+1 by omega]
   simpa using h3
theorem kahn_min{ds:List Nat}{n:Nat}:∀(f done:Nat) (all:List Nat),(kahn ds n f done all).1=0→∀T,T<2^n→T≠0→(∀j,T.testBit j=true→done.testBit j=false) →
 ∃i,T.testBit i=true∧∀j,(ds.getD i 0).testBit j=true→T.testBit j=false
 |0,done,all,h,T,hT,h0,hd=>by simp[kahn] at h
 |f+1,done,all,h,T,hT,h0,hd=>by
  unfold kahn at h
  split at h
  ·rename_i hfull
   obtain⟨j,hj⟩:=Nat.exists_testBit_of_ne_zero h0
   have:=hd j hj
   have hjn:j<n:=by
    rcases Nat.lt_or_ge j n with h|h
    ·exact h
    ·rw[Nat.testBit_lt_two_pow (Nat.lt_of_lt_of_le hT (Nat.pow_le_pow_right (by decide) h))] at hj;cases hj
   rw[hfull,Nat.testBit_two_pow_sub_one] at this
   simp[hjn] at this
  ·simp only at h
   split at h
   ·cases h
   ·by_cases hex:∃i,T.testBit i=true∧(rdyF done 0 ds).testBit i=true
    ·obtain⟨i,hi,hr⟩:=hex
     obtain⟨_,_,hs⟩:=rdyF_has done ds 0 i hr
     refine⟨i,hi,λj hj=>?_⟩
     have hb:=testBit_sub (ds.getD i 0) done j
     rw[Nat.sub_zero] at hs
     rw[hs,Nat.zero_testBit,hj,Bool.true_and] at hb
     rcases hTj:T.testBit j with _|_
     ·rfl
     ·rw[hd j hTj] at hb;cases hb
    ·refine kahn_min f _ _ h T hT h0 λj hj=>?_
     rw[Nat.testBit_or,hd j hj,Bool.false_or]
     rcases hr:(rdyF done 0 ds).testBit j with _|_
     ·rfl
     ·exact absurd ⟨j,hj,hr⟩ hex
def Acyc(p:PlanD):Prop:=∀T,T<2^p.steps.length→T≠0→∃i,T.testBit i=true∧i<p.steps.length∧∀k∈p.after.getD i [],T.testBit k.toNat=false
theorem planErr_ok{s:SiteD}{wl:List ServiceD}{p:PlanD}(h:planErr s wl p=0):Shape p∧Acyc p:=by
 unfold planErr planErrE at h
 split at h
 ·split at h
  ·cases h
  ·rename_i h12
   split at h
   ·rename_i hc
    obtain⟨hlen,_⟩:=hc
    obtain⟨h1,ds,hds,hk⟩:=ofS_ok h
    obtain⟨hl,hg⟩:=dirs_get hds
    refine⟨⟨hlen,by omega,λl hl' k hk'=>?_⟩,λT hT h0=>?_⟩
    ·obtain⟨j,hj,rfl⟩:=List.getElem_of_mem hl'
     have:=dirL_range (hg j hj) k hk'
     rw[hlen] at this
     exact⟨this.1,this.2.1⟩
    ·rw[←hlen] at hT
     obtain⟨i,hi,hm⟩:=kahn_min _ _ _ hk T hT h0 (λj _=>Nat.zero_testBit j)
     have hin:i<p.after.length:=by
      rcases Nat.lt_or_ge i p.after.length with h|h
      ·exact h
      ·rw[Nat.testBit_lt_two_pow (Nat.lt_of_lt_of_le hT (Nat.pow_le_pow_right (by decide) h))] at hi;cases hi
     refine⟨i,hi,by omega,λk hk'=>hm _ ?_⟩
     rw[List.getD_eq_getElem?_getD,List.getElem?_eq_getElem hin,Option.getD_some] at hk'
     rw[dirL_bit (hg i hin),Nat.zero_testBit,Bool.false_or,List.any_eq_true]
     exact⟨k,hk',by simp⟩
   ·cases h
 ·cases h
def befS(i:Nat)(o:List Nat)(k:Nat):List Nat:=o.set i (o.getD i 0|||(2^k|||o.getD k 0))
def befI(i:Nat)(l:List Nat)(o:List Nat):List Nat:=l.foldl (befS i) o
def befP(ls:List (List Nat))(o:List Nat)(m:Nat):List Nat:=(List.range m).foldl (λo i=>befI i (ls.getD i []) o) o
def befN(ls:List (List Nat)):Nat→List Nat
 |0=>List.replicate ls.length 0
 |r+1=>befP ls (befN ls r) ls.length
def bef(ls:List (List Nat)):List Nat:=befN ls ls.length
def Wk(ls:List (List Nat)):Nat→Nat→Nat→Prop
 |0,i,j=>i=j
 |m+1,i,j=>∃k,k∈ls.getD i []∧Wk ls m k j
theorem befP_succ(ls:List (List Nat))(o:List Nat)(m:Nat):befP ls o (m+1)=befI m (ls.getD m []) (befP ls o m):=by
 simp only[befP,List.range_succ,List.foldl_append,List.foldl_cons,List.foldl_nil]
theorem befI_take{i:Nat}{l o:List Nat}{k:Nat}(h:k<l.length):befI i (l.take (k+1)) o=befS i (befI i (l.take k) o) l[k]:=by
 simp only[befI,List.take_add_one,List.getElem?_eq_getElem h,Option.toList_some,List.foldl_append,List.foldl_cons,List.foldl_nil]
def bit(o:List Nat)(i j:Nat):Prop:=(o.getD i 0).testBit j=true
def Up(o o':List Nat):Prop:=o'.length=o.length∧∀i j,bit o i j→bit o' i j
theorem Up.refl(o:List Nat):Up o o:=⟨rfl,λ_ _ h=>h⟩
theorem Up.trans{a b c:List Nat}(h:Up a b)(k:Up b c):Up a c:=⟨k.1.trans h.1,λi j x=>k.2 i j (h.2 i j x)⟩
theorem getD_set(o:List Nat)(i v x:Nat):(o.set i v).getD x 0=if i=x∧i<o.length then v else o.getD x 0:=by
 simp only[List.getD_eq_getElem?_getD,List.getElem?_set]
 by_cases e:i=x
 ·subst e
  by_cases h:i<o.length
  ·simp[h]
  ·simp[h]
 ·simp[e]
theorem befS_up(i:Nat)(o:List Nat)(k:Nat):Up o (befS i o k):=by
 refine⟨by simp[befS],λx j h=>?_⟩
 simp only[bit,befS,getD_set] at *
 split
 ·rename_i e
  rw[e.1,Nat.testBit_or,h,Bool.true_or]
 ·exact h
theorem befS_has{i k:Nat}{o:List Nat}(hi:i<o.length):bit (befS i o k) i k∧∀j,bit o k j→bit (befS i o k) i j:=by
 simp only[bit,befS,getD_set,hi,and_self,if_true,Nat.testBit_or,Nat.testBit_two_pow]
 exact⟨by simp,λj h=>by rw[h,Bool.or_true,Bool.or_true]⟩
theorem befI_up(i:Nat):∀(l o:List Nat),Up o (befI i l o)
 |[],o=>Up.refl o
 |k::r,o=>(befS_up i o k).trans (befI_up i r _)
theorem befI_has{i:Nat}:∀{l o:List Nat},i<o.length→∀{k:Nat},k∈l→bit (befI i l o) i k∧∀j,bit o k j→bit (befI i l o) i j
 |[],_,_,_,h=>absurd h (by simp)
 |a::r,o,hi,k,h=>by
  have hu:=befS_up i o a
  have hi':i<(befS i o a).length:=by rw[hu.1];exact hi
  rcases List.mem_cons.1 h with rfl|h
  ·have h1:=befS_has (k:=k) hi
   have h2:=befI_up i r (befS i o k)
   exact⟨h2.2 _ _ h1.1,λj hj=>h2.2 _ _ (h1.2 j hj)⟩
  ·have h1:=befI_has hi' h
   exact⟨h1.1,λj hj=>h1.2 j (hu.2 _ _ hj)⟩
theorem befP_up(ls:List (List Nat))(o:List Nat):∀m,Up o (befP ls o m)
 |0=>Up.refl o
 |m+1=>by rw[befP_succ];exact(befP_up ls o m).trans (befI_up _ _ _)
theorem befP_has{ls:List (List Nat)}{o:List Nat}(hl:o.length=ls.length){i k:Nat}(hk:k∈ls.getD i []):∀{m:Nat},i<m→m≤ls.length→bit (befP ls o m) i k∧∀j,bit o k j→bit (befP ls o m) i j
 |0,h,_=>absurd h (by omega)
 |m+1,h,hm=>by
  rw[befP_succ]
  have hu:=befP_up ls o m
  by_cases e:i=m
  ·subst e
   have h1:=befI_has (i:=i) (l:=ls.getD i []) (o:=befP ls o i) (by rw[hu.1,hl];omega) hk
   exact⟨h1.1,λj hj=>h1.2 j (hu.2 _ _ hj)⟩
  ·have h1:=befP_has hl hk (m:=m) (by omega) (by omega)
   have h2:=befI_up m (ls.getD m []) (befP ls o m)
   exact⟨h2.2 _ _ h1.1,λj hj=>h2.2 _ _ (h1.2 j hj)⟩
theorem befN_len(ls:List (List Nat)):∀r,(befN ls r).length=ls.length
 |0=>by simp[befN]
 |r+1=>by simp only[befN];rw[(befP_up ls _ _).1,befN_len ls r]
theorem mem_lt{ls:List (List Nat)}{i k:Nat}(h:k∈ls.getD i []):i<ls.length:=by
 rcases Nat.lt_or_ge i ls.length with h1|h1
 ·exact h1
 ·rw[List.getD_eq_getElem?_getD,List.getElem?_eq_none h1] at h;simp at h
theorem befN_walk{ls:List (List Nat)}:∀{r m i j:Nat},1≤m→m≤r→Wk ls m i j→bit (befN ls r) i j
 |0,m,_,_,h1,h2,_=>absurd h1 (by omega)
 |r+1,m,i,j,h1,h2,hw=>by
  match m,hw with
  |m+1,⟨k,hk,hw⟩=>
   have h:=befP_has (befN_len ls r) hk (mem_lt hk) (Nat.le_refl _)
   match m,hw with
   |0,hw=>subst hw;exact h.1
   |m+1,hw=>exact h.2 _ (befN_walk (by omega) (by omega) hw)
theorem Wk.append{ls:List (List Nat)}:∀{a b i k j:Nat},Wk ls a i k→Wk ls b k j→Wk ls (a+b) i j
 |0,b,i,k,j,h1,h2=>by subst h1;rw[Nat.zero_add];exact h2
 |a+1,b,i,k,j,⟨x,hx,h1⟩,h2=>by
  rw[show a+1+b=(a+b)+1 by omega]
  exact⟨x,hx,h1.append h2⟩
def Sound(ls:List (List Nat))(o:List Nat):Prop:=∀i j,bit o i j→∃m,1≤m∧Wk ls m i j
theorem sound_S{ls:List (List Nat)}{o:List Nat}{i k:Nat}(h:Sound ls o)(hk:k∈ls.getD i []):Sound ls (befS i o k):=by
 intro x j hb
 simp only[bit,befS,getD_set] at hb
 split at hb
 ·rename_i e
  obtain⟨rfl,_⟩:=e
  simp only[Nat.testBit_or,Bool.or_eq_true,Nat.testBit_two_pow,decide_eq_true_eq] at hb
  rcases hb with hb|hb|hb
  ·exact h _ _ hb
  ·subst hb;exact⟨1,Nat.le_refl _,_,hk,rfl⟩
  ·obtain⟨m,h1,h2⟩:=h _ _ hb
   exact⟨m+1,by omega,k,hk,h2⟩
 ·exact h _ _ hb
theorem sound_I{ls:List (List Nat)}{i:Nat}:∀{l o:List Nat},Sound ls o→(∀k∈l,k∈ls.getD i [])→Sound ls (befI i l o)
 |[],_,h,_=>h
 |k::r,o,h,hl=>by
  show Sound ls (befI i r (befS i o k))
  exact sound_I (sound_S h (hl k (List.mem_cons_self ..))) λx hx=>hl x (List.mem_cons_of_mem _ hx)
theorem sound_P{ls:List (List Nat)}{o:List Nat}(h:Sound ls o):∀m,Sound ls (befP ls o m)
 |0=>h
 |m+1=>by rw[befP_succ];exact sound_I (sound_P h m) λ_ hk=>hk
theorem sound_N(ls:List (List Nat)):∀r,Sound ls (befN ls r)
 |0=>λi j h=>by
  simp only[bit,befN,List.getD_eq_getElem?_getD,List.getElem?_replicate] at h
  split at h<;>simp at h
 |r+1=>sound_P (sound_N ls r) _
theorem pigeon:∀(n:Nat) (f:Nat→Nat),(∀t,t≤n→f t<n)→∃a b,a<b∧b≤n∧f a=f b
 |0,f,h=>absurd (h 0 (Nat.le_refl _)) (by omega)
 |n+1,f,h=>by
  by_cases hx:∃a,a≤n∧f a=f (n+1)
  ·obtain⟨a,h1,h2⟩:=hx
   exact⟨a,n+1,by omega,Nat.le_refl _,h2⟩
  ·
   obtain⟨a,b,h1,h2,h3⟩:=pigeon n (λt=>if f t=n then f (n+1) else f t) λt ht=>by
    have ht1:=h t (by omega)
    have hl:=h (n+1) (Nat.le_refl _)
    have hne:f t≠f (n+1):=λe=>hx ⟨t,ht,e⟩
    split<;>omega
   refine⟨a,b,h1,by omega,?_⟩
   have ha:f a≠f (n+1):=λe=>hx ⟨a,by omega,e⟩
   have hb:f b≠f (n+1):=λe=>hx ⟨b,by omega,e⟩
   split at h3<;>split at h3<;>omega
theorem Wk.nodes{ls:List (List Nat)}:∀{m i j:Nat},Wk ls m i j→∃f:Nat→Nat,f 0=i∧f m=j∧∀t,t<m→f (t+1)∈ls.getD (f t) []
 |0,i,j,h=>⟨λ_=>i,rfl,h,λt ht=>absurd ht (by omega)⟩
 |m+1,i,j,⟨k,hk,h⟩=>by
  obtain⟨f,h0,h1,h2⟩:=h.nodes
  refine⟨λt=>if t=0 then i else f (t - 1),rfl,by simpa using h1,λt ht=>?_⟩
  cases t with
  |zero=>simpa [h0] using hk
  |succ t=>simpa using h2 t (by omega)
theorem walk_of{ls:List (List Nat)}{f:Nat→Nat}:∀{d a:Nat},(∀t,a≤t→t<a+d→f (t+1)∈ls.getD (f t) [])→Wk ls d (f a) (f (a+d))
 |0,a,_=>rfl
 |d+1,a,h=>by
  refine⟨f (a+1),h a (Nat.le_refl _) (by omega),?_⟩
  have:=walk_of (ls:=ls) (f:=f) (d:=d) (a:=a+1) λt h1 h2=>h t (by omega) (by omega)
  rwa [show a+1+d=a+(d+1) by omega] at this
def NoCyc(ls:List (List Nat)):Prop:=∀i m,1≤m→¬Wk ls m i i
theorem long_walk{ls:List (List Nat)}{m i j:Nat}(h:Wk ls m i j)(hm:ls.length<m):∃x d,1≤d∧d≤ls.length∧Wk ls d x x:=by
 obtain⟨f,h0,h1,h2⟩:=h.nodes
 obtain⟨a,b,hab,hb,he⟩:=pigeon ls.length f λt ht=>mem_lt (h2 t (by omega))
 refine⟨f a,b - a,by omega,by omega,?_⟩
 have:=walk_of (ls:=ls) (f:=f) (d:=b - a) (a:=a) λt h3 h4=>h2 t (by omega)
 rwa [show a+(b - a)=b by omega,←he] at this
theorem walk_short{ls:List (List Nat)}(hc:NoCyc ls){m i j:Nat}(h:Wk ls m i j):m≤ls.length:=by
 rcases Nat.lt_or_ge ls.length m with h1|h1
 ·obtain⟨x,d,h2,_,h3⟩:=long_walk h h1
  exact absurd h3 (hc x d h2)
 ·exact h1
theorem cyc_rep{ls:List (List Nat)}{i m:Nat}(h:Wk ls m i i):∀t,Wk ls (t * m) i i
 |0=>by rw[Nat.zero_mul];rfl
 |t+1=>by rw[Nat.succ_mul];exact(cyc_rep h t).append h
theorem bef_cyc(ls:List (List Nat)):(∃i,i<ls.length∧bit (bef ls) i i)↔¬NoCyc ls:=by
 constructor
 ·rintro⟨i,_,h⟩ hc
  obtain⟨m,h1,h2⟩:=sound_N ls _ i i h
  exact hc i m h1 h2
 ·intro h
  have:∃i m,1≤m∧Wk ls m i i:=Classical.byContradiction λhn=>h λi m h1 h2=>hn ⟨i,m,h1,h2⟩
  obtain⟨i,m,h1,h2⟩:=this
  have h3:=cyc_rep h2 (ls.length+1)
  have:ls.length<(ls.length+1) * m:=Nat.lt_of_lt_of_le (Nat.lt_succ_self _) (Nat.le_mul_of_pos_right _ h1)
  obtain⟨x,d,hd1,hd2,hw⟩:=long_walk h3 this
  have hb:=befN_walk hd1 hd2 hw
  match d,hw with
  |d+1,⟨k,hk,_⟩=>exact⟨x,mem_lt hk,hb⟩
def Sets(ls:List (List Nat))(ds:List Nat):Prop:=ds.length=ls.length∧∀i k,bit ds i k↔k∈ls.getD i []
def bitsF(f:Nat→Nat):Nat→Nat
 |0=>0
 |m+1=>bitsF f m|||2^f m
theorem bitsF_bit(f:Nat→Nat)(x:Nat):∀m,(bitsF f m).testBit x=true↔∃t,t<m∧f t=x
 |0=>by simp[bitsF]
 |m+1=>by
  simp only[bitsF,Nat.testBit_or,Bool.or_eq_true,bitsF_bit f x m,Nat.testBit_two_pow,decide_eq_true_eq]
  constructor
  ·rintro(⟨t,h1,h2⟩|h)
   ·exact⟨t,by omega,h2⟩
   ·exact⟨m,by omega,h⟩
  ·rintro⟨t,h1,h2⟩
   by_cases e:t=m
   ·subst e;exact .inr h2
   ·exact .inl ⟨t,by omega,h2⟩
theorem bitsF_lt{f:Nat→Nat}{n:Nat}:∀{m:Nat},(∀t,t<m→f t<n)→bitsF f m<2^n
 |0,_=>Nat.pow_pos (by decide)
 |m+1,h=>Nat.or_lt_two_pow (bitsF_lt λt ht=>h t (by omega)) (Nat.pow_lt_pow_right (by decide) (h m (by omega)))
theorem kahn_nocyc{ls:List (List Nat)}{ds:List Nat}(hS:Sets ls ds){f:Nat}{all:List Nat}(h:(kahn ds ls.length f 0 all).1=0):NoCyc ls:=by
 intro i m h1 h2
 obtain⟨g,g0,gm,gs⟩:=h2.nodes
 have hlt:bitsF g m<2^ls.length:=bitsF_lt λt ht=>mem_lt (gs t ht)
 have hne:bitsF g m≠0:=λe=>by
  have:=(bitsF_bit g (g 0) m).2 ⟨0,by omega,rfl⟩
  rw[e] at this
  simp at this
 obtain⟨x,hx,hmin⟩:=kahn_min f 0 all h (bitsF g m) hlt hne (λj _=>Nat.zero_testBit j)
 obtain⟨t,ht,rfl⟩:=(bitsF_bit g x m).1 hx
 have h3:=hmin (g (t+1)) ((hS.2 _ _).2 (gs t ht))
 have h4:(bitsF g m).testBit (g (t+1))=true:=by
  rw[bitsF_bit]
  by_cases e:t+1=m
  ·exact⟨0,by omega,by rw[e,gm,g0]⟩
  ·exact⟨t+1,by omega,rfl⟩
 rw[h4] at h3
 cases h3
theorem rdyF_set(done:Nat):∀(l:List Nat) (i j:Nat),i≤j→j<i+l.length→done.testBit j=false→sub (l.getD (j - i) 0) done=0→(rdyF done i l).testBit j=true
 |[],i,j,h1,h2,_,_=>absurd h2 (by simp;omega)
 |d::r,i,j,h1,h2,h3,h4=>by
  unfold rdyF
  rw[Nat.testBit_or]
  by_cases e:i=j
  ·subst e
   rw[Nat.sub_self] at h4
   simp at h4
   simp[h3,h4,Nat.testBit_two_pow]
  ·have:=rdyF_set done r (i+1) j (by omega) (by simp at h2;omega) h3 (by
    rw[show j - i=(j - (i+1))+1 by omega] at h4
    simpa using h4)
   rw[this,Bool.or_true]
theorem kahn_fail{ds:List Nat}{n:Nat}:∀(f done:Nat) (all:List Nat),done<2^n→ds.length=n→2^n≤f+done→(kahn ds n f done all).1≠0→∃d,d<2^n∧d≠2^n - 1∧rdyF d 0 ds=0
 |0,done,all,h1,_,h2,_=>absurd h1 (by omega)
 |f+1,done,all,h1,hl,h2,h=>by
  unfold kahn at h
  split at h
  ·exact absurd rfl h
  ·rename_i hne
   simp only at h
   split at h
   ·rename_i hr
    exact⟨done,h1,hne,hr⟩
   ·rename_i hr
    have hgt:=or_rdy_gt hr
    refine kahn_fail f _ _ (Nat.or_lt_two_pow h1 ?_) hl (by omega) h
    have:=rdyF_lt done ds 0
    rwa [Nat.zero_add,hl] at this
theorem not_full{d n:Nat}(h1:d<2^n)(h2:d≠2^n - 1):∃i,i<n∧d.testBit i=false:=by
 refine Classical.byContradiction λhn=>h2 ?_
 refine Nat.eq_of_testBit_eq λi=>?_
 rw[Nat.testBit_two_pow_sub_one]
 by_cases hi:i<n
 ·have:¬d.testBit i=false:=λe=>hn ⟨i,hi,e⟩
  simpa [hi] using this
 ·rw[Nat.testBit_lt_two_pow (Nat.lt_of_lt_of_le h1 (Nat.pow_le_pow_right (by decide) (by omega)))]
  simp[hi]
theorem kahn_cyc{ls:List (List Nat)}{ds:List Nat}(hS:Sets ls ds)(hr:∀i k,k∈ls.getD i []→k<ls.length)(h12:2^ls.length≤4096){all:List Nat}(h:(kahn ds ls.length 4096 0 all).1≠0):¬NoCyc ls:=by
 obtain⟨d,hd,hne,hr0⟩:=kahn_fail 4096 0 all (Nat.pow_pos (by decide)) hS.1 (by omega) h
 obtain⟨i0,hi0,hb0⟩:=not_full hd hne
 have step:∀i,i<ls.length∧d.testBit i=false→∃k,k∈ls.getD i []∧(k<ls.length∧d.testBit k=false):=by
  rintro i ⟨hi,hb⟩
  have hs:sub (ds.getD i 0) d≠0:=λe=>by
   have:=rdyF_set d ds 0 i (by omega) (by rw[hS.1];omega) hb (by rwa [Nat.sub_zero])
   rw[hr0] at this
   simp at this
  obtain⟨k,hk⟩:=Nat.exists_testBit_of_ne_zero hs
  rw[testBit_sub,Bool.and_eq_true] at hk
  have hm:=(hS.2 i k).1 hk.1
  exact⟨k,hm,hr i k hm,by simpa using hk.2⟩
 have walk:∀m i,i<ls.length∧d.testBit i=false→∃j,Wk ls m i j:=by
  intro m
  induction m with
  |zero=>exact λi _=>⟨i,rfl⟩
  |succ m ih=>
   intro i hi
   obtain⟨k,hk,hk2⟩:=step i hi
   obtain⟨j,hj⟩:=ih k hk2
   exact⟨j,k,hk,hj⟩
 intro hc
 obtain⟨j,hj⟩:=walk (ls.length+1) i0 ⟨hi0,hb0⟩
 have:=walk_short hc hj
 omega
def natA(after:List (List Int)):List (List Nat):=after.map (·.map Int.toNat)
def offB(n i:Int)(k:Int):Bool:=decide (k<0)||decide (n≤k)||decide (k=i)
def badB(n:Int):Nat→List (List Int)→Bool
 |_,[]=>false
 |i,l::r=>l.any (offB n i)||badB n (i+1) r
def cycB(after:List (List Int)):Bool:=(List.range after.length).any λi=>((bef (natA after)).getD i 0).testBit i
def refErr(after:List (List Int)):Int:=if 12<after.length then 1 else if !after.all ascL then 1 else if badB after.length 0 after then 2 else if cycB after then 12 else 0
theorem dirL_none{n i:Int}:∀{l:List Int} {s:Nat},dirL n i s l=none↔l.any (offB n i)=true
 |[],s=>by simp[dirL]
 |k::r,s=>by
  unfold dirL
  by_cases h:k<0∨n≤k∨k=i
  ·rw[if_pos h]
   simp only[List.any_cons,offB,Bool.or_eq_true,decide_eq_true_eq,true_iff]
   left
   omega
  ·rw[if_neg h,dirL_none]
   have:offB n i k=false:=by simp[offB];omega
   simp[this]
theorem dirs_none{n:Int}:∀{ll:List (List Int)} {i:Nat},dirs n i ll=none↔badB n i ll=true
 |[],i=>by simp[dirs,badB]
 |l::r,i=>by
  unfold dirs badB
  cases h:dirL n i 0 l with
  |none=>simp[dirL_none.1 h]
  |some d=>
   have h1:l.any (offB n i)=false:=by
    rw[←Bool.not_eq_true]
    intro h2
    rw[dirL_none.2 h2] at h
    cases h
   rw[h1,Bool.false_or,←dirs_none]
   simp
theorem natA_len(after:List (List Int)):(natA after).length=after.length:=by simp[natA]
theorem natA_get{after:List (List Int)}{i:Nat}(h:i<after.length):(natA after).getD i []=after[i].map Int.toNat:=by
 rw[List.getD_eq_getElem?_getD,natA,List.getElem?_map,List.getElem?_eq_getElem h];rfl
theorem dirs_sets{after:List (List Int)}{ds:List Nat}(h:dirs after.length 0 after=some ds):Sets (natA after) ds∧(∀i k,k∈(natA after).getD i []→k<after.length∧k≠i)∧∀i (h:i<after.length),∀k∈after[i],0≤k:=by
 obtain⟨hl,hg⟩:=dirs_get h
 have hg':∀j (h:j<after.length),dirL after.length (j:Int) 0 after[j]=some (ds.getD j 0):=λj hj=>by
  have:=hg j hj
  rwa [Nat.zero_add] at this
 refine⟨⟨by rw[hl,natA_len],λi k=>?_⟩,λi k hk=>?_,λi hi k hk=>(dirL_range (hg' i hi) k hk).1⟩
 ·by_cases hi:i<after.length
  ·rw[natA_get hi]
   simp only[bit]
   rw[dirL_bit (hg' i hi),Nat.zero_testBit,Bool.false_or,List.any_eq_true,List.mem_map]
   simp only[beq_iff_eq]
  ·have h1:ds.getD i 0=0:=by rw[List.getD_eq_getElem?_getD,List.getElem?_eq_none (by omega)];rfl
   have h2:(natA after).getD i []=[]:=by rw[List.getD_eq_getElem?_getD,List.getElem?_eq_none (by rw[natA_len];omega)];rfl
   rw[bit,h1,h2]
   simp
 ·have hi:i<after.length:=by have:=mem_lt hk;rwa [natA_len] at this
  rw[natA_get hi] at hk
  obtain⟨x,hx,rfl⟩:=List.mem_map.1 hk
  have:=dirL_range (hg' i hi) x hx
  omega
theorem kahn_err(ds:List Nat)(n:Nat):∀f done all,(kahn ds n f done all).1=0∨(kahn ds n f done all).1=12
 |0,_,_=>.inr rfl
 |f+1,done,all=>by
  unfold kahn
  split
  ·exact .inl rfl
  ·simp only
   split
   ·exact .inr rfl
   ·exact kahn_err ds n f _ _
theorem pow12{k:Nat}(h:k≤12):2^k≤4096:=by
 have:=Nat.pow_le_pow_right (n:=2) (by decide) h
 simpa using this
theorem cycB_iff{after:List (List Int)}:cycB after=true↔¬NoCyc (natA after):=by
 rw[←bef_cyc,cycB,List.any_eq_true]
 simp only[List.mem_range,natA_len,bit]
theorem refErr_eq(after:List (List Int)):refErr after=(ofS after).1:=by
 unfold refErr ofS
 split
 ·rfl
 ·rename_i h12
  split
  ·rfl
  ·cases hd:dirs after.length 0 after with
   |none=>rw[dirs_none] at hd;rw[if_pos hd]
   |some ds=>
    have hb:badB after.length 0 after=false:=by
     rw[←Bool.not_eq_true,←dirs_none,hd]
     simp
    rw[hb]
    obtain⟨hS,hr,_⟩:=dirs_sets hd
    simp only[Bool.false_eq_true,if_false]
    rcases kahn_err ds after.length 4096 0 (List.replicate after.length 0) with h|h
    ·rw[h,if_neg]
     rw[cycB_iff]
     intro hn
     exact hn (kahn_nocyc hS (by rw[natA_len];exact h))
    ·rw[h,if_pos]
     rw[cycB_iff]
     exact kahn_cyc hS (λi k hk=>by rw[natA_len];exact(hr i k hk).1) (by rw[natA_len];exact pow12 (by omega)) (all:=List.replicate after.length 0) (by rw[natA_len,h];decide)
def intL(l:List Nat):List Int:=l.map λn:Nat=>(n:Int)
set_option maxHeartbeats 1000000
def idealsL(p:PlanD):List Nat:=(List.range (2^p.steps.length)).filter (idealB p)
def askedE(e:Int)(p:PlanD)(x:Int):Int:=if e=0 then if idealI p x then 0 else 2 else e
section
variable{w:World}{B:Nat}{u:SiteVs}{s:SiteD}{wv sv av:Value}{vs:List Value}{l:List SrvV}{p:PlanD}(hT:TabW w)(hB:B≤w.heap.size)(hs:SiteR w B u s)(hl:WishR w B wv l)(hp:PlanR w B sv av vs p)
include hT hB hs hl hp
theorem planAsked{x e:Int}(he:planErr s (l.map (·.x)) p=e):Ret Tryz.prog 56 #[.agg (siteC u s).toArray,.agg #[wv],.agg #[sv,av],intV x] w (intV (askedE e p x)):=by
 have hv:=λw' hx=>planValid (w:=w') (hT.ext hx) (Nat.le_trans hB (Ext.size hx)) (hs.ext hx hB) (hl.ext hx hB) (hp.ext hx hB)
 have hok:=λh=>(planErr_ok (s:=s) (wl:=l.map (·.x)) (p:=p) h).1
 rw[he] at hv hok
 (refine callsV_of Tryz.func56 rfl (by kernel_rfl) (by kernel_rfl) ?_;rw[Tryz.results56])
 simp only[↓X,↓Y,↓Q,S0,↓reduceIte,Nat.reduceEqDiff,Nat.reduceAdd,Int.reduceLT,Int.reduceLE,Int.reduceNeg,now w,siteC,intV]
 refine alloc_intro λb1 w1 hb1 hx1 _=>?_
 simp only[↓X,↓Y,↓Q,S0,↓reduceIte,Nat.reduceEqDiff,Nat.reduceAdd,Int.reduceLT,Int.reduceLE,Int.reduceNeg,now w1]
 refine alloc_intro λb2 w2 hb2 hx2 _=>?_
 simp only[↓X,↓Y,↓Q,S0,↓reduceIte,Nat.reduceEqDiff,Nat.reduceAdd,Int.reduceLT,Int.reduceLE,Int.reduceNeg,now w2]
 refine alloc_intro λb3 w3 hb3 hx3 _=>?_
 have hx:=hx1.trans (hx2.trans hx3)
 simp only[↓X,↓Y,↓Q,S0,↓reduceIte,Nat.reduceEqDiff,Nat.reduceAdd,Int.reduceLT,Int.reduceLE,Int.reduceNeg,now w3,(hb1.ext (hx2.trans hx3)).cell,(hb2.ext hx3).cell,hb3.cell]
 refine ret_bind' (Ext.refl w3) (hv w3 hx) λw4 hx4=>?_
 cases c1:e != 0
 ·have e0:e=0:=by simpa using c1
  simp only[↓X,↓Y,↓Q,S0,↓reduceIte,Nat.reduceEqDiff,Nat.reduceAdd,Int.reduceLT,Int.reduceLE,Int.reduceNeg,now w4,intV,c1,(hb3.ext hx4).cell]
  refine ret_bind' hx4 (planIdeal (Nat.le_trans hB (hx.trans hx4).size) (hp.ext (hx.trans hx4) hB) (hok e0)) λw5 hx5=>?_
  cases c2:idealI p x
  ·simp only[↓X,↓Y,↓Q,S0,↓reduceIte,Nat.reduceEqDiff,Nat.reduceAdd,Int.reduceLT,Int.reduceLE,Int.reduceNeg,now w5]
   exact⟨by simp[askedE,e0,c2],hx.trans hx5⟩
  ·simp only[↓X,↓Y,↓Q,S0,↓reduceIte,Nat.reduceEqDiff,Nat.reduceAdd,Int.reduceLT,Int.reduceLE,Int.reduceNeg,now w5]
   exact⟨by simp[askedE,e0,c2],hx.trans hx5⟩
 ·simp only[↓X,↓Y,↓Q,S0,↓reduceIte,Nat.reduceEqDiff,Nat.reduceAdd,Int.reduceLT,Int.reduceLE,Int.reduceNeg,now w4,intV,c1]
  have e0:e≠0:=by simpa using c1
  exact⟨by simp[askedE,e0],hx.trans hx4⟩
theorem planEnabledX{x e:Int}(he:planErr s (l.map (·.x)) p=e):CallsV Tryz.prog 61 #[.agg (siteC u s).toArray,.agg #[wv],.agg #[sv,av],intV x] w λr w'=>Ext w w'∧∃v,r=.tuple #[v,intV (askedE e p x)] ∧
 Own w' w.heap.size 3 1 v ((if askedE e p x=0 then enabledL p x.toNat else[]).map natC):=by
 have hv:=λw' hx=>planAsked (w:=w') (x:=x) (hT.ext hx) (Nat.le_trans hB (Ext.size hx)) (hs.ext hx hB) (hl.ext hx hB) (hp.ext hx hB) he
 have hok:=λh=>(planErr_ok (s:=s) (wl:=l.map (·.x)) (p:=p) h).1
 rw[he] at hok
 (refine callsV_of Tryz.func61 rfl (by kernel_rfl) (by kernel_rfl) ?_;rw[Tryz.results61])
 simp only[↓X,↓Y,↓Q,S0,↓reduceIte,Nat.reduceEqDiff,Nat.reduceAdd,Int.reduceLT,Int.reduceLE,Int.reduceNeg,now w,siteC]
 refine alloc_intro λb1 w1 hb1 hx1 _=>?_
 simp only[↓X,↓Y,↓Q,S0,↓reduceIte,Nat.reduceEqDiff,Nat.reduceAdd,Int.reduceLT,Int.reduceLE,Int.reduceNeg,now w1]
 refine alloc_intro λb2 w2 hb2 hx2 _=>?_
 simp only[↓X,↓Y,↓Q,S0,↓reduceIte,Nat.reduceEqDiff,Nat.reduceAdd,Int.reduceLT,Int.reduceLE,Int.reduceNeg,now w2]
 refine alloc_intro λb3 w3 hb3 hx3 _=>?_
 have hx:=hx1.trans (hx2.trans hx3)
 simp only[↓X,↓Y,↓Q,S0,↓reduceIte,Nat.reduceEqDiff,Nat.reduceAdd,Int.reduceLT,Int.reduceLE,Int.reduceNeg,now w3,(hb1.ext (hx2.trans hx3)).cell,(hb2.ext hx3).cell,hb3.cell]
 refine ret_bind' (Ext.refl w3) (hv w3 hx) λw4 hx4=>?_
 cases c1:askedE e p x != 0
 ·have e0:askedE e p x=0:=by simpa using c1
  have he0:e=0:=by
   unfold askedE at e0
   split at e0
   ·assumption
   ·assumption
  have hid:idealI p x=true:=by
   unfold askedE at e0
   rw[if_pos he0] at e0
   split at e0
   ·assumption
   ·cases e0
  have hsh:=hok he0
  have hx0:0≤x∧x.toNat<2^p.steps.length:=by
   simp only[idealI,idealB,Bool.and_eq_true,decide_eq_true_eq] at hid
   exact⟨hid.1,hid.2.1⟩
  obtain⟨y,rfl⟩:=Int.eq_ofNat_of_zero_le hx0.1
  have hy:y<4096:=Nat.lt_of_lt_of_le hx0.2 (two_pow_le hsh.small)
  simp only[↓X,↓Y,↓Q,S0,↓reduceIte,Nat.reduceEqDiff,Nat.reduceAdd,Int.reduceLT,Int.reduceLE,Int.reduceNeg,now w4,intV,c1,(hb3.ext hx4).cell]
  have hx04:=hx.trans hx4
  refine CallsV.mono (planEnabled (Nat.le_trans hB hx04.size) (hp.ext hx04 hB) hsh hy) λv w5 ⟨hx5,hown⟩=>?_
  simp only[↓X,↓Y,↓Q,S0,↓reduceIte,Nat.reduceEqDiff,Nat.reduceAdd,Int.reduceLT,Int.reduceLE,Int.reduceNeg,now w5]
  rw[e0]
  exact⟨hx04.trans hx5,v,rfl,by simpa using hown.more hx04.size⟩
 ·simp only[↓X,↓Y,↓Q,S0,↓reduceIte,Nat.reduceEqDiff,Nat.reduceAdd,Int.reduceLT,Int.reduceLE,Int.reduceNeg,now w4,intV,c1]
  have e0:askedE e p x≠0:=by simpa using c1
  rw[if_neg e0]
  exact⟨hx.trans hx4,_,rfl,Own.nil _ _ _ _⟩
end
def seqF(p:PlanD)(set:Nat):Nat→Nat→List Nat
 |0,_=>[]
 |f+1,done=>if done=set then[] else match (enabledL p done).find? λi=>set.testBit i with
  |none=>[]
  |some i=>i::seqF p set f (done|||2^i)
theorem le_of_bits{a b:Nat}(h:∀j,a.testBit j=true→b.testBit j=true):a≤b:=by
 have:a|||b=b:=by
  apply Nat.eq_of_testBit_eq
  intro j
  rw[Nat.testBit_or]
  cases ha:a.testBit j
  ·rfl
  ·rw[h j ha];rfl
 rw[←this]
 exact Nat.left_le_or
theorem next_some{p:PlanD}(ho:Shape p)(ha:Acyc p){set done:Nat}(hi:idealB p set=true)(hsub:∀j,done.testBit j=true→set.testBit j=true)(hne:done≠set) :
 ∃i,((enabledL p done).find? λi=>set.testBit i)=some i∧i<p.steps.length∧set.testBit i=true∧done.testBit i=false∧openB p done i=true:=by
 simp only[idealB,Bool.and_eq_true,decide_eq_true_eq] at hi
 have hT:sub set done<2^p.steps.length:=sub_lt hi.1
 have h0:sub set done≠0:=by
  intro h
  apply hne
  apply Nat.eq_of_testBit_eq
  intro j
  have hb:=testBit_sub set done j
  rw[h,Nat.zero_testBit] at hb
  cases hd:done.testBit j
  ·cases hs:set.testBit j
   ·rfl
   ·rw[hd,hs] at hb;cases hb
  ·exact(hsub j hd).symm
 obtain⟨i,h1,hin,h2⟩:=ha _ hT h0
 rw[testBit_sub,Bool.and_eq_true,Bool.not_eq_true'] at h1
 have hop:openB p done i=true:=by
  have h3:=hi.2 i hin h1.1
  simp only[openB,List.all_eq_true] at h3 ⊢
  intro k hk
  have h4:=h2 k hk
  rw[testBit_sub,h3 k hk,Bool.true_and,Bool.not_eq_false'] at h4
  exact h4
 cases hf:(enabledL p done).find? λi=>set.testBit i with
 |none=>
  rw[List.find?_eq_none] at hf
  exact absurd h1.1 (hf i (by simp[enabledL,hin,h1.2,hop]))
 |some q=>
  have hm:=List.mem_of_find?_eq_some hf
  have hq:=List.find?_some hf
  simp only[enabledL,List.mem_filter,List.mem_range,Bool.and_eq_true,Bool.not_eq_true'] at hm
  exact⟨q,rfl,hm.1,hq,hm.2.1,hm.2.2⟩
section
variable{w:World}{B:Nat}{u:SiteVs}{s:SiteD}{wv sv av:Value}{vs:List Value}{l:List SrvV}{p:PlanD}(hT:TabW w)(hB:B≤w.heap.size)(hs:SiteR w B u s)(hl:WishR w B wv l)(hp:PlanR w B sv av vs p)
include hT hB hs hl hp
omit hT hB hs hl hp in
theorem planSequence1{w:World}{b set k:Nat}(hk1:k<62)(hs:set<4096)(hb:Blk w b 3 [natV set]):Ret Tryz.prog 59 #[natV k,.pointer (some ⟨b,0,none⟩)] w (.bool (set.testBit k)):=by
 (refine callsV_of Tryz.func59 rfl (by kernel_rfl) (by kernel_rfl) ?_;rw[Tryz.results59])
 have e:=bit_eq1 (a:=set) (k:=k) (by omega) (by omega)
 simp only[↓X,↓Y,↓Q,S0,↓reduceIte,Nat.reduceEqDiff,Nat.reduceAdd,Int.reduceLT,Int.reduceLE,Int.reduceNeg,now w,hb.cell,natV,intV,e]
 (repeat' apply And.intro)<;>first|rfl|assumption|exact Ext.refl _
theorem planSequence{x e:Int}(he:planErr s (l.map (·.x)) p=e):CallsV Tryz.prog 31 #[.agg (siteC u s).toArray,.agg #[wv],.agg #[sv,av],intV x] w λr w'=>Ext w w'∧∃v,r=.tuple #[v,intV (askedE e p x)] ∧
 Own w' w.heap.size 3 1 v ((if askedE e p x=0 then seqF p x.toNat 4096 0 else[]).map natC):=by
 have hv:=λw' hx=>planAsked (w:=w') (x:=x) (hT.ext hx) (Nat.le_trans hB (Ext.size hx)) (hs.ext hx hB) (hl.ext hx hB) (hp.ext hx hB) he
 have hok:=λh=>planErr_ok (s:=s) (wl:=l.map (·.x)) (p:=p) h
 rw[he] at hok
 (refine callsV_of Tryz.func31 rfl (by kernel_rfl) (by kernel_rfl) ?_;rw[Tryz.results31])
 simp only[↓X,↓Y,↓Q,S0,↓reduceIte,Nat.reduceEqDiff,Nat.reduceAdd,Int.reduceLT,Int.reduceLE,Int.reduceNeg,now w,siteC]
 refine alloc_intro λb1 w1 hb1 hx1 _=>?_
 simp only[↓X,↓Y,↓Q,S0,↓reduceIte,Nat.reduceEqDiff,Nat.reduceAdd,Int.reduceLT,Int.reduceLE,Int.reduceNeg,now w1]
 refine alloc_intro λb2 w2 hb2 hx2 _=>?_
 simp only[↓X,↓Y,↓Q,S0,↓reduceIte,Nat.reduceEqDiff,Nat.reduceAdd,Int.reduceLT,Int.reduceLE,Int.reduceNeg,now w2]
 refine alloc_intro λb3 w3 hb3 hx3 _=>?_
 simp only[↓X,↓Y,↓Q,S0,↓reduceIte,Nat.reduceEqDiff,Nat.reduceAdd,Int.reduceLT,Int.reduceLE,Int.reduceNeg,now w3,intV]
 refine alloc_intro λb4 w4 hb4 hx4 hn4=>?_
 have hx:=hx1.trans (hx2.trans (hx3.trans hx4))
 simp only[↓X,↓Y,↓Q,S0,↓reduceIte,Nat.reduceEqDiff,Nat.reduceAdd,Int.reduceLT,Int.reduceLE,Int.reduceNeg,now w4,(hb1.ext (hx2.trans (hx3.trans hx4))).cell,(hb2.ext (hx3.trans hx4)).cell,(hb3.ext hx4).cell,hb4.cell]
 refine ret_bind' (Ext.refl w4) (hv w4 hx) λw5 hx5=>?_
 have hx05:=hx.trans hx5
 have hb3:=hb3.ext (hx4.trans hx5)
 have hb4:=hb4.ext hx5
 have hb4l:=hb4.lt
 cases c1:askedE e p x != 0
 ·have e0:askedE e p x=0:=by simpa using c1
  have he0:e=0:=by
   unfold askedE at e0
   split at e0
   ·assumption
   ·assumption
  have hid:idealI p x=true:=by
   unfold askedE at e0
   rw[if_pos he0] at e0
   split at e0
   ·assumption
   ·cases e0
  obtain⟨hsh,hac⟩:=hok he0
  simp only[idealI,Bool.and_eq_true,decide_eq_true_eq] at hid
  obtain⟨set,rfl⟩:=Int.eq_ofNat_of_zero_le hid.1
  have hib:idealB p set=true:=hid.2
  have hlt2:set<2^p.steps.length:=by simp only[idealB,Bool.and_eq_true,decide_eq_true_eq] at hib;exact hib.1
  have hsm:=hsh.small
  have h2:=two_pow_le hsm
  simp only[↓X,↓Y,↓Q,S0,↓reduceIte,Nat.reduceEqDiff,Nat.reduceAdd,Int.reduceLT,Int.reduceLE,Int.reduceNeg,now w5,intV,c1]
  refine loopX_intro (λm g w'=>∃(f done:Nat) (out:List Nat) (v:Value),m+done=set∧set≤f+done∧out.length+f=4096∧(∀j,done.testBit j=true→set.testBit j=true)∧g 12=.int .i64 done∧g 7=.pointer (some ⟨b4,0,none⟩)∧g 6=.pointer (some ⟨b3,0,none⟩)∧g 11=v ∧
   out++seqF p set f done=seqF p set 4096 0∧Own w' w5.heap.size 3 1 v (out.map natC)∧Blk w' b3 40 [sv,av]∧Blk w' b4 3 [natV set]∧Ext w5 w') set (by kernel_rfl) ?_ ?_
  ·refine⟨4096,0,[],.slice none 0 0,by omega,?_⟩
   simp only[↓X,↓Y,↓Q,S0,↓reduceIte,Nat.reduceEqDiff,Nat.reduceAdd,Int.reduceLT,Int.reduceLE,Int.reduceNeg]
   (repeat' apply And.intro)<;>first|rfl|assumption|omega|exact Ext.refl _|(simp;done)|exact Own.nil _ _ _ _|exact hb4|(intro j hj;rw[Nat.zero_testBit] at hj;cases hj)
  ·rintro m g w6 ⟨f,done,out,v,hm,hf,hof,hsub,h12,h7,h6,h11,hseq,hown,hb3,hb4,hx56⟩
   have hx6:=hx05.trans hx56
   cases c2:(done:Int) != (set:Int)
   ·have hd:done=set:=by have:(done:Int)=set:=(by simpa using c2);omega
    have hnil:seqF p set f done=[]:=by
     cases f with
     |zero=>rfl
     |succ f=>rw[seqF,if_pos hd]
    rw[hnil,List.append_nil] at hseq
    simp only[↓X,↓Y,↓Q,S0,↓reduceIte,Nat.reduceEqDiff,Nat.reduceAdd,Int.reduceLT,Int.reduceLE,Int.reduceNeg,now w6,h12,h7,hb4.cell,natV,intV,c2,h11]
    rw[e0,if_pos rfl]
    rw[←hseq]
    exact⟨hx6,v,rfl,hown.more hx05.size⟩
   ·have hd:done≠set:=by have:¬(done:Int)=set:=(by simpa using c2);omega
    have hdle:=le_of_bits hsub
    obtain⟨f',rfl⟩:∃f',f=f'+1:=⟨f - 1,by omega⟩
    obtain⟨q,hq,hqn,hqs,hqd,_⟩:=next_some hsh hac hib hsub hd
    rw[seqF,if_neg hd,hq] at hseq
    simp only at hseq
    simp only[↓X,↓Y,↓Q,S0,↓reduceIte,Nat.reduceEqDiff,Nat.reduceAdd,Int.reduceLT,Int.reduceLE,Int.reduceNeg,now w6,h12,h7,h6,hb4.cell,hb3.cell,natV,intV,c2]
    refine CallsV.mono (planEnabled (Nat.le_trans hB hx6.size) (hp.ext hx6 hB) hsh (set:=done) (by omega)) λvn w7 ⟨hx7,hown7⟩=>?_
    have hb4':=hb4.ext hx7
    have hsl:=hown7.sl1 (f:=natV)
    simp only[↓X,↓Y,↓Q,S0,↓reduceIte,Nat.reduceEqDiff,Nat.reduceAdd,Int.reduceLT,Int.reduceLE,Int.reduceNeg,now w7,h7]
    have hcal:callable Tryz.prog 59=true:=by kernel_rfl
    have hst:∀k∈enabledL p done,∀w',Ext w7 w'→Ret Tryz.prog 59 (natV k::[.pointer (some ⟨b4,0,none⟩)]).toArray w' (.bool (set.testBit k)):=λk hk w' hx'=>
     planSequence1 (by have:=(List.mem_filter.1 hk).1;have:=List.mem_range.1 this;omega) (by omega) (hb4'.ext hx')
    refine ret_bind' (Ext.refl w7) (indexFunc_int (Nat.le_refl _) hsl hcal hst) λw8 hx8=>?_
    rcases fidx_cases (λk:Nat=>set.testBit k) (enabledL p done) with ⟨_,h2⟩|⟨i,hi,h1,h2⟩
    ·rw[hq] at h2;cases h2
    ·rw[hq] at h2
     have hqi:(enabledL p done)[i]=q:=(Option.some.inj h2).symm
     have hat:=(hsl.ext hx8 (Nat.le_refl _)).at_ i hi
     rw[hqi] at hat
     rw[h1]
     have hshq:=shlI_nat (k:=q) (by omega)
     have hp1:2^q<2^p.steps.length:=Nat.pow_lt_pow_right (by decide) hqn
     have horq:orI .i64 (done:Int) ((2^q:Nat):Int)=((done|||2^q:Nat):Int):=orI_nat (by omega) (by omega)
     simp only[↓X,↓Y,↓Q,S0,↓reduceIte,Nat.reduceEqDiff,Nat.reduceAdd,Int.reduceLT,Int.reduceLE,Int.reduceNeg,now w8,h11,Int.ofNat_lt,hi,hsl.len_,hat,natV,intV,idxOk,flatP,cellsL,List.length_cons,List.length_nil,Nat.reduceMul,Nat.reduceLeDiff,Nat.reduceLT]
     refine row_intro λb9 w9 hb9 hx9 _=>?_
     have hx69:=hx7.trans (hx8.trans hx9)
     simp only[↓X,↓Y,↓Q,S0,↓reduceIte,Nat.reduceEqDiff,Nat.reduceAdd,Int.reduceLT,Int.reduceLE,Int.reduceNeg,now w9,h11]
     refine append_int (x:=q) (hown.ext hx69) hb9 rfl (by simp[natC,intV,one_int]) (by omega) (hx56.trans hx69).size λv' w10 hown' hgr hbl _=>?_
     have hb3':=grown_blk hgr (hb3.ext hx69) ((hown.ext hx69).ne (hb3.ext hx69) (by decide))
     have hb4'':=grown_blk hgr (hb4.ext hx69) (λhe=>by have h1:=(hown.lt b4 he).1;have h2:=hb4l;omega)
     have hn9:=hown7.ext (hx8.trans hx9)
     have hn10:=hn9.keep (w':=w10) λb hb=>hgr.block b (hn9.lt b hb).2 λhe=>by
      have h1:=(hown.lt b he.symm).2
      have h2:=(hown7.lt b hb).1
      omega
     have hat':=(hn10.sl1 (f:=natV)).at_ i hi
     rw[hqi] at hat'
     simp only[↓X,↓Y,↓Q,S0,↓reduceIte,Nat.reduceEqDiff,Nat.reduceAdd,Int.reduceLT,Int.reduceLE,Int.reduceNeg,now w10,h12,Int.ofNat_lt,hi,hsl.len_,hat',natV,intV,hshq,horq,h7,h6]
     have hgt:done<done|||2^q:=by
      refine Nat.lt_of_le_of_ne Nat.left_le_or λhe=>?_
      have:=congrArg (λx=>x.testBit q) he
      simp only[Nat.testBit_or,hqd,Nat.testBit_two_pow_self,Bool.or_true] at this
      cases this
     have hsub':∀j,(done|||2^q).testBit j=true→set.testBit j=true:=by
      intro j hj
      rw[Nat.testBit_or,Nat.testBit_two_pow] at hj
      rcases Bool.or_eq_true _ _▸hj with h|h
      ·exact hsub j h
      ·have:q=j:=by simpa using h
       rw[←this];exact hqs
     have hle':=le_of_bits hsub'
     refine⟨set - (done|||2^q),by omega,f',done|||2^q,out++[q],v',?_⟩
     (repeat' apply And.intro)<;>first|rfl|assumption|omega|(simp;omega)|(rw[←hseq];simp;done)|exact(hx56.trans hx69).trans' hbl
 ·simp only[↓X,↓Y,↓Q,S0,↓reduceIte,Nat.reduceEqDiff,Nat.reduceAdd,Int.reduceLT,Int.reduceLE,Int.reduceNeg,now w5,intV,c1]
  have e0:askedE e p x≠0:=by simpa using c1
  rw[if_neg e0]
  exact⟨hx05,_,rfl,Own.nil _ _ _ _⟩
end
end Go.Proofs.YtphciegaokdolaaGreatDoor
