
/- The document's answer, layer 20: Valid, IsIdeal, asked, Ideals, Enabled, Sequence. -/
import Derived.Test.YtphciegaokdolaaGreatDoorRef10
import Derived.Test.YtphciegaokdolaaGreatDoorLaw20
import Derived.Test.YtphciegaokdolaaGreatDoorRef13
import Derived.Test.YtphciegaokdolaaGreatDoorRow
import Derived.Test.YtphciegaokdolaaGreatDoorRef19
import Derived.Test.YtphciegaokdolaaGreatDoorLaw20
namespace Go.Proofs.YtphciegaokdolaaGreatDoor
set_option linter.unusedSimpArgs false
set_option linter.unusedVariables false
open Go Go.RowKit
set_option maxRecDepth 100000
set_option linter.unusedSectionVars false
set_option maxHeartbeats 2000000
theorem sxRef20b0{p q:Prop}(hq:q)(h:p=q:=by first|(simp(maxDischargeDepth:=3) only[↓X,↓Y,↓Q,S1,↓reduceIte,Nat.reduceEqDiff,Nat.reduceAdd,Int.reduceLT,Int.reduceLE,Int.reduceNeg,Int.reduceBEq,Int.reduceBNe,Int.reduceEq,Nat.reduceLeDiff,Nat.reduceMul,Nat.reduceLT, *,siteC];try exact rfl)|(simp(singlePass:=true) (maxDischargeDepth:=99) only[*,S2,Nat.reduceLT,siteC];try exact rfl)):p:=h▸hq
theorem sxRef20b1{p q:Prop}(hq:q)(h:p=q:=by first|(simp(maxDischargeDepth:=3) only[↓X,↓Y,↓Q,S1,↓reduceIte,Nat.reduceEqDiff,Nat.reduceAdd,Int.reduceLT,Int.reduceLE,Int.reduceNeg,Int.reduceBEq,Int.reduceBNe,Int.reduceEq,Nat.reduceLeDiff,Nat.reduceMul,Nat.reduceLT, *,List.take_zero,List.all_nil,List.any_nil];try exact rfl)|(simp(singlePass:=true) (maxDischargeDepth:=99) only[*,S2,Nat.reduceLT,List.take_zero,List.all_nil,List.any_nil];try exact rfl)):p:=h▸hq
section
variable{w:World}{B:Nat}{u:SiteVs}{s:SiteD}{wv sv av:Value}{vs:List Value}{l:List SrvV}{p:PlanD}
theorem planErrE_cases{e:Int}{wl:List ServiceD}:(siteB s=false∨wishB wl=false→planErrE e s wl p=1)∧(siteB s=true→wishB wl=true→(12<p.steps.length→planErrE e s wl p=3)∧(¬12<p.steps.length→(¬p.after.length=p.steps.length→planErrE e s wl p=1)
 ∧ (p.after.length=p.steps.length→(∀k (h:k<p.steps.length),stepB2 s wl p.steps[k]=false→planErrE e s wl p=1)∧((∀k (h:k<p.steps.length),stepB2 s wl p.steps[k]=true)→planErrE e s wl p=e)))):=by
 refine⟨λh=>?_,λh1 h2=>⟨λh3=>?_,λh3=>⟨λh4=>?_,λh4=>⟨λk hk h5=>?_,λh5=>?_⟩⟩⟩⟩
 ·rcases h with h|h<;>simp[planErrE,h]
 ·simp[planErrE,h1,h2,h3]
 ·simp[planErrE,h1,h2,h3,h4]
 ·have:¬(p.steps.all (stepB s wl)=true):=λh=>by
   have:=List.all_eq_true.1 h _ (List.getElem_mem hk)
   rw[stepB_eq,h5] at this
   cases this
  simp only[planErrE,h1,h2,h3,Bool.and_self,if_true,if_false]
  rw[if_neg (λh=>this h.2)]
 ·have:p.steps.all (stepB s wl)=true:=by
   rw[List.all_eq_true]
   intro x hx
   obtain⟨k,hk,rfl⟩:=List.getElem_of_mem hx
   rw[stepB_eq]
   exact h5 k hk
  simp only[planErrE,h1,h2,h3,Bool.and_self,if_true,if_false]
  rw[if_pos ⟨h4,this⟩]
theorem ref20Valid(hB:B≤w.heap.size)(hs:SiteR w B u s)(hl:WishR w B wv l)(hpl:PlanR w B sv av vs p):Ret Tryz.prog 86 #[.agg (siteC u s).toArray,.agg #[wv],.agg #[sv,av]] w (intV (planErr s (l.map (·.x)) p)):=by
 have⟨hn,hx⟩:=bg0 w
 have hs':=hs.sk hB
 have hl':=hl.sk hB
 have hp':=hpl.sk hB
 have hS:=hs'.2.2.2.2.2.2
 have hW:=hl'.2.2
 have hP:=hp'.2.2.2.2.2.2
 have hv1:=λw' (h1:Bl B w w') (h3:B≤w'.heap.size)=>ref12Valid h3 (hS w' h1)
 have hv2:=λw' (h1:Bl B w w') (h3:B≤w'.heap.size)=>ref13ValidWish h3 (hW w' h1)
 have hv3:=λst w' (h1:Bl B w w') (h3:B≤w'.heap.size)=>ref19Valid (st:=st) h3 (hS w' h1) (hW w' h1)
 have hv4:=λw' (h1:Bl B w w') (h3:B≤w'.heap.size)=>ref10Valid h3 (hP w' h1).a
 have hc:=planErrE_cases (s:=s) (p:=p) (e:=(ofS p.after).1) (wl:=l.map (·.x))
 have hmax:=hpl.s.max_
 rw[planErr]
 generalize planErrE (ofS p.after).1 s (l.map (·.x)) p=E at *
 generalize hsb:siteB s=sb at *
 generalize hwb:wishB (l.map (·.x))=wb at *
 generalize (ofS p.after).1=e0 at *
 replace hc:Hid _:=hc
 replace hv3:Hid _:=hv3
 clear hsb hwb
 (refine callsV_of Tryz.func86 rfl KR KR ?_;rw[Tryz.results86])
 cases sb
 ·obtain rfl:=hc.out.1 (.inl rfl)
  clear hc hv2 hv3
  (repeat' first|(with_reducible first|exact⟨⟩|(refine gB ?_;intros)|refine gT ?_ ?_)|refine gs ?_|((with_reducible refine at_f 83 ?_);refine ret_k (hv1 _ FR FR) λ_ _ _=>?_)|refine sxRef20b0 ?_)
 cases wb
 ·obtain rfl:=hc.out.1 (.inr rfl)
  clear hc hv3
  (repeat' first|(with_reducible first|exact⟨⟩|(refine gB ?_;intros)|refine gT ?_ ?_)|refine gs ?_|((with_reducible refine at_f 83 ?_);refine ret_k (hv1 _ FR FR) λ_ _ _=>?_)|((with_reducible refine at_f 84 ?_);refine ret_k (hv2 _ FR FR) λ_ _ _=>?_)|refine sxRef20b0 ?_)
 have hc2:=hc.out.2 rfl rfl
 replace hc2:Hid _:=hc2
 clear hc
 (repeat' first|(with_reducible first|exact⟨⟩|(refine gB ?_;intros)|refine gT ?_ ?_)|refine gs ?_|((with_reducible refine at_f 83 ?_);refine ret_k (hv1 _ FR FR) λ_ _ _=>?_)|((with_reducible refine at_f 84 ?_);refine ret_k (hv2 _ FR FR) λ_ _ _=>?_)|refine sxRef20b0 ?_)
 ·rename_i h
  rw[hc2.out.1 (by omega)]
 ·rename_i h12 heq
  have hc3:=hc2.out.2 (by omega)
  have heq':p.after.length=p.steps.length:=by omega
  have hc4:=hc3.2 heq'
  replace hc4:Hid _:=hc4
  clear hc2 hc3
  refine loop_k (p.steps.length) (λg0 k g _=>g 7=.int .i64 k∧(g 3=g0 3∧g 4=g0 4∧g 5=g0 5)∧Hid (∀a (h:a<p.steps.length),a<k→stepB2 s (l.map (·.x)) p.steps[a]=true)) KR (hmax) ?_ ?_ ?_
  ·(repeat' first|(with_reducible first|exact⟨⟩|(refine gB ?_;intros)|refine gT ?_ ?_)|refine gs ?_|refine sxRef20b1 ?_)
   exact λa _ h=>absurd h (by omega)
  ·rintro k m g wk hk hlt _ _ _ hw ⟨hi,hf,hp⟩
   simp(maxDischargeDepth:=3) only[U,↓reduceIte,Nat.reduceEqDiff, *] at hf
   (repeat' first|((with_reducible refine wpd_at 10 ?_);refine wpd_tail 7 KR KR KR ?_)|(with_reducible first|exact⟨⟩|(refine gB ?_;intros)|refine gT ?_ ?_)|refine gs ?_|((with_reducible refine at_f 70 ?_);refine ret_k (hv3.out p.steps[k] _ FR FR) λ_ _ _=>?_)|refine sxRef20b0 ?_)
   ·rename_i hb
    refine next_k hk hlt ?_ FR
    (repeat' first|(with_reducible first|exact⟨⟩|(refine gB ?_;intros)|refine gT ?_ ?_)|refine gs ?_|refine sx ?_)
    all_goals (intro a h ha;rcases Nat.lt_or_eq_of_le (Nat.le_of_lt_succ ha) with h1|rfl;exact hp.out a h h1;exact hb)
   ·rename_i hb
    rw[hc4.out.1 k hlt hb]
  ·rintro g wk _ _ _ ⟨hi,hf,hp⟩
   simp(maxDischargeDepth:=3) only[U,↓reduceIte,Nat.reduceEqDiff, *] at hf
   (repeat' first|(with_reducible first|exact⟨⟩|(refine gB ?_;intros)|refine gT ?_ ?_)|refine gs ?_|((with_reducible refine at_f 142 ?_);refine ret_k (hv4 _ FR FR) λ_ _ _=>?_)|refine sx ?_)
   rw[hc4.out.2 λk h=>hp.out k h h]
 ·rename_i h
  rw[(hc2.out.2 (by omega)).1 (by omega)]
theorem ref20IsIdeal{x:Int}(hB:B≤w.heap.size)(hpl:PlanR w B sv av vs p)(ho:Shape p):Ret Tryz.prog 87 #[.agg #[sv,av],intV x] w (.bool (idealI p x)):=by
 have⟨hn,hx⟩:=bg0 w
 have hp':=hpl.sk hB
 have hP:=hp'.2.2.2.2.2.2
 have hsm:=ho.small
 have hmax:=hpl.s.max_
 have hpow:=two_pow_le hsm
 have hc1:x<0→Hid (idealI p x=false):=λh=>by
  show _=_
  simp[idealI];omega
 have hc2:∀q:Nat,x=q→2^p.steps.length≤q→Hid (idealI p x=false):=λq h h2=>by
  show _=_
  subst h
  have:¬q<2^p.steps.length:=by omega
  simp[idealI,idealB,this]
 have hc3:∀q:Nat,x=q→q<2^p.steps.length→Hid ((∀i,i<p.steps.length→q.testBit i=true→openB p q i=false→idealI p x=false)∧((∀i,i<p.steps.length→q.testBit i=true→openB p q i=true)→idealI p x=true)):=λq h h2=>by
  subst h
  refine⟨λi hi h3 h4=>?_,λh3=>?_⟩
  ·rw[←Bool.not_eq_true]
   intro hI
   simp only[idealI,idealB,Int.toNat_natCast,Bool.and_eq_true,decide_eq_true_eq] at hI
   rw[hI.2.2 i hi h3] at h4
   cases h4
  ·simp only[idealI,idealB,Int.toNat_natCast,Bool.and_eq_true,decide_eq_true_eq]
   exact⟨Int.natCast_nonneg _,h2,h3⟩
 have hw0:=λw'=>ref20With (w:=w') (set:=0) (i:=p.steps.length) (by decide) (by omega)
 simp only[Nat.zero_add,natV,intV,nat0] at hw0
 replace hw0:Hid _:=hw0
 generalize idealI p x=R at *
 (refine callsV_of Tryz.func87 rfl KR KR ?_;rw[Tryz.results87])
 by_cases h0:x<0
 ·obtain rfl:=(hc1 h0).out
  have h1:decide (x<0)=true:=by simpa using h0
  clear hc1 hc2 hc3
  (repeat' first|(with_reducible first|exact⟨⟩|(refine gB ?_;intros)|refine gT ?_ ?_)|refine gs ?_|refine sx ?_)
 obtain⟨q,rfl⟩:∃q:Nat,x=q:=⟨x.toNat,by omega⟩
 replace hc2:=hc2 q rfl
 replace hc3:=hc3 q rfl
 replace hc2:Hid _:=hc2
 replace hc3:Hid _:=hc3
 clear hc1 h0
 (repeat' first|(with_reducible first|exact⟨⟩|(refine gB ?_;intros)|refine gT ?_ ?_)|refine gs ?_|refine sx ?_)
 refine ret_k (hw0.out _) λw2 n2 s2=>?_
 (repeat' first|(with_reducible first|exact⟨⟩|(refine gB ?_;intros)|refine gT ?_ ?_)|refine gs ?_|refine sx ?_)
 ·rename_i h
  rw[(hc2.out h).out]
 ·rename_i h
  have hq:q<2^p.steps.length:=by omega
  have hc4:=(hc3.out hq).out
  replace hc4:Hid _:=hc4
  have hq4:q<4096:=by omega
  have hop:=λk (hk:k<p.steps.length) w' (h1:Bl B w w') (h3:B≤w'.heap.size)=>ref20Open (set:=q) (i:=k) h3 (hP w' h1) ho hq4 hk
  replace hop:Hid _:=hop
  clear hc2 hc3 hw0 h
  refine loop_k (p.steps.length) (λg0 k g _=>g 5=.int .i64 k∧(g 1=g0 1∧g 2=g0 2)∧Hid (∀a,a<k→a<p.steps.length→q.testBit a=true→openB p q a=true)) KR (hmax) ?_ ?_ ?_
  ·(repeat' first|(with_reducible first|exact⟨⟩|(refine gB ?_;intros)|refine gT ?_ ?_)|refine gs ?_|refine sxRef20b1 ?_)
   exact λa h=>absurd h (by omega)
  ·rintro k m g wk hk hlt _ _ _ hw ⟨hi,hf,hp⟩
   simp(maxDischargeDepth:=3) only[U,↓reduceIte,Nat.reduceEqDiff, *] at hf
   (repeat' first|(with_reducible first|exact⟨⟩|(refine gB ?_;intros)|refine gT ?_ ?_)|refine gs ?_|refine sx ?_)
   refine ret_k (ref20In (set:=q) (i:=k) hq4 (by omega)) λw3 n3 s3=>?_
   cases hb:q.testBit k
   ·(repeat' first|(with_reducible first|exact⟨⟩|(refine gB ?_;intros)|refine gT ?_ ?_)|refine gs ?_|refine sx ?_)
    refine next_k hk hlt ?_ FR
    (repeat' first|(with_reducible first|exact⟨⟩|(refine gB ?_;intros)|refine gT ?_ ?_)|refine gs ?_|refine sx ?_)
    all_goals (intro a h h1 h2;rcases Nat.lt_or_eq_of_le (Nat.le_of_lt_succ h) with h3|rfl;exact hp.out a h3 h1 h2;rw[hb] at h2;cases h2)
   ·(repeat' first|(with_reducible first|exact⟨⟩|(refine gB ?_;intros)|refine gT ?_ ?_)|refine gs ?_|refine sx ?_)
    refine ret_k (hop.out k hlt _ FR FR) λw4 n4 s4=>?_
    cases ho2:openB p q k
    ·(repeat' first|(with_reducible first|exact⟨⟩|(refine gB ?_;intros)|refine gT ?_ ?_)|refine gs ?_|refine sx ?_)
     rw[hc4.out.1 k hlt hb ho2]
    ·(repeat' first|(with_reducible first|exact⟨⟩|(refine gB ?_;intros)|refine gT ?_ ?_)|refine gs ?_|refine sx ?_)
     refine next_k hk hlt ?_ FR
     (repeat' first|(with_reducible first|exact⟨⟩|(refine gB ?_;intros)|refine gT ?_ ?_)|refine gs ?_|refine sx ?_)
     all_goals (intro a h h1 h2;rcases Nat.lt_or_eq_of_le (Nat.le_of_lt_succ h) with h3|rfl;exact hp.out a h3 h1 h2;exact ho2)
  ·rintro g wk _ _ _ ⟨hi,hf,hp⟩
   simp(maxDischargeDepth:=3) only[U,↓reduceIte,Nat.reduceEqDiff, *] at hf
   (repeat' first|(with_reducible first|exact⟨⟩|(refine gB ?_;intros)|refine gT ?_ ?_)|refine gs ?_|refine sx ?_)
   rw[hc4.out.2 λi hi h=>hp.out i hi hi h]
theorem ref20asked{x e:Int}(hB:B≤w.heap.size)(hs:SiteR w B u s)(hl:WishR w B wv l)(hpl:PlanR w B sv av vs p)(he:planErr s (l.map (·.x)) p=e):Ret Tryz.prog 67 #[.agg (siteC u s).toArray,.agg #[wv],.agg #[sv,av],intV x] w (intV (askedE e p x)):=by
 have⟨hn,hx⟩:=bg0 w
 have hs':=hs.sk hB
 have hl':=hl.sk hB
 have hp':=hpl.sk hB
 have hS:=hs'.2.2.2.2.2.2
 have hW:=hl'.2.2
 have hP:=hp'.2.2.2.2.2.2
 have hok:=λh=>(planErr_ok (s:=s) (wl:=l.map (·.x)) (p:=p) h).1
 have hv:=λw' (h1:Bl B w w') (h3:B≤w'.heap.size)=>ref20Valid h3 (hS w' h1) (hW w' h1) (hP w' h1)
 rw[he] at hok
 simp only[he] at hv
 have hI:=λ(h:e=0) w' (h1:Bl B w w') (h3:B≤w'.heap.size)=>ref20IsIdeal (x:=x) h3 (hP w' h1) (hok h)
 replace hI:Hid _:=hI
 have hA1:e=0→Hid (askedE e p x=if idealI p x=true then 0 else 2):=λh=>by
  show _=_
  simp[askedE,h]
 have hA2:¬e=0→Hid (askedE e p x=e):=λh=>by
  show _=_
  simp[askedE,h]
 generalize askedE e p x=R at *
 clear hok
 (refine callsV_of Tryz.func67 rfl KR KR ?_;rw[Tryz.results67])
 by_cases h0:e=0
 ·subst h0
  have hA:=hA1 rfl
  clear hA1 hA2
  (repeat' first|(with_reducible first|exact⟨⟩|(refine gB ?_;intros)|refine gT ?_ ?_)|refine gs ?_|((with_reducible refine at_f 86 ?_);refine ret_k (hv _ FR FR) λ_ _ _=>?_)|refine sxRef20b0 ?_)
  refine ret_k (hI.out rfl _ FR FR) λw3 n3 s3=>?_
  cases hi:idealI p x
  ·rw[hi] at hA
   have hA:=hA.out
   rw[hA]
   clear hA
   (repeat' first|(with_reducible first|exact⟨⟩|(refine gB ?_;intros)|refine gT ?_ ?_)|refine gs ?_|refine sx ?_)
  ·rw[hi] at hA
   have hA:=hA.out
   rw[hA]
   clear hA
   (repeat' first|(with_reducible first|exact⟨⟩|(refine gB ?_;intros)|refine gT ?_ ?_)|refine gs ?_|refine sx ?_)
 ·have e1:(e == 0)=false:=by simpa using h0
  have hA:=(hA2 h0).out
  subst hA
  clear hA1 hA2 hI
  (repeat' first|(with_reducible first|exact⟨⟩|(refine gB ?_;intros)|refine gT ?_ ?_)|refine gs ?_|((with_reducible refine at_f 86 ?_);refine ret_k (hv _ FR FR) λ_ _ _=>?_)|refine sxRef20b0 ?_)
theorem ref20Enabled{x e:Int}(hB:B≤w.heap.size)(hs:SiteR w B u s)(hl:WishR w B wv l)(hpl:PlanR w B sv av vs p)(he:planErr s (l.map (·.x)) p=e):CallsV Tryz.prog 90 #[.agg (siteC u s).toArray,.agg #[wv],.agg #[sv,av],intV x] w λr w'=>Ext w w'∧∃v,r=.tuple #[v,intV (askedE e p x)] ∧
 Own w' w.heap.size 3 1 v ((if askedE e p x=0 then enabledL p x.toNat else[]).map natC):=by
 have⟨hn,hx⟩:=bg0 w
 have hs':=hs.sk hB
 have hl':=hl.sk hB
 have hp':=hpl.sk hB
 have hS:=hs'.2.2.2.2.2.2
 have hW:=hl'.2.2
 have hP:=hp'.2.2.2.2.2.2
 have hmax:=hpl.s.max_
 have hv:=λw' (h1:Bl B w w') (h3:B≤w'.heap.size)=>ref20asked (x:=x) h3 (hS w' h1) (hW w' h1) (hP w' h1) he
 have hok:askedE e p x=0→Hid (Shape p∧∃q:Nat,x=q∧q<4096):=λh=>by
  by_cases h0:e=0
  ·rw[h0] at he
   have hsh:=(planErr_ok he).1
   refine⟨hsh,x.toNat,?_⟩
   cases hi:idealI p x
   ·simp[askedE,h0,hi] at h
   ·simp only[idealI,idealB,Bool.and_eq_true,decide_eq_true_eq] at hi
    have:=two_pow_le hsh.small
    omega
  ·simp only[askedE,h0,if_false] at h
 generalize askedE e p x=R at *
 replace hok:R=0→Hid _:=hok
 (refine callsV_of Tryz.func90 rfl KR KR ?_;rw[Tryz.results90])
 by_cases h0:R=0
 ·subst h0
  obtain⟨ho,q,rfl,hq4⟩:=(hok rfl).out
  have hop:=λk (hk:k<p.steps.length) w' (h1:Bl B w w') (h3:B≤w'.heap.size)=>ref20Open (set:=q) (i:=k) h3 (hP w' h1) ho hq4 hk
  replace hop:Hid _:=hop
  have hsm:=ho.small
  clear hok
  (repeat' first|(with_reducible first|exact⟨⟩|(refine gB ?_;intros)|refine gT ?_ ?_)|refine gs ?_|((with_reducible refine at_f 67 ?_);refine ret_k (hv _ FR FR) λ_ _ _=>?_)|refine sxRef20b0 ?_)
  refine loop_o p.steps.length (λw0 g0 k g w'=>g 12=.int .i64 k∧(g 3=g0 3∧g 6=g0 6)∧∃v,g 11=v∧Own w' w0.heap.size 3 1 v (((List.range k).filter λi=>!q.testBit i&&openB p q i).map natC)) KR hmax ?_ ?_ ?_
  ·(repeat' first|(with_reducible first|exact⟨⟩|(refine gB ?_;intros)|refine gT ?_ ?_)|refine gs ?_|refine sx ?_)
   exact⟨_,rfl,Own.nil _ _ _ _⟩
  ·rintro k m g wk hk hlt nk sk bk hw ⟨hi,hf,v,hv5,hown⟩
   simp(maxDischargeDepth:=3) only[U,↓reduceIte,Nat.reduceEqDiff, *] at hf
   have bw:Bl wk.heap.size wk wk:=Bl.refl (Nat.le_refl _)
   have O:=hown.o
   have hle:((List.range k).filter λi=>!q.testBit i&&openB p q i).length≤k:=by have:=List.length_filter_le (λi=>!q.testBit i&&openB p q i) (List.range k);simpa using this
   have hfil:((List.range (k+1)).filter λi=>!q.testBit i&&openB p q i)=((List.range k).filter λi=>!q.testBit i&&openB p q i)++if (!q.testBit k&&openB p q k)=true then[k] else[]:=by
    rw[List.range_succ,List.filter_append]
    congr 1
    rw[List.filter_cons]
    split<;>simp_all
   clear hown
   (repeat' first|(with_reducible first|exact⟨⟩|(refine gB ?_;intros)|refine gT ?_ ?_)|refine gs ?_|refine sx ?_)
   refine ret_k (ref20In (set:=q) (i:=k) hq4 (by omega)) λw3 n3 s3=>?_
   cases hb:q.testBit k
   ·(repeat' first|(with_reducible first|exact⟨⟩|(refine gB ?_;intros)|refine gT ?_ ?_)|refine gs ?_|refine sx ?_)
    refine ret_k (hop.out k hlt _ FR FR) λw4 n4 s4=>?_
    cases ho2:openB p q k
    ·(repeat' first|(with_reducible first|exact⟨⟩|(refine gB ?_;intros)|refine gT ?_ ?_)|refine gs ?_|refine sx ?_)
     refine next_k hk hlt ?_ FR
     (repeat' first|(with_reducible first|exact⟨⟩|(refine gB ?_;intros)|refine gT ?_ ?_)|refine gs ?_|refine sx ?_)
     refine⟨_,rfl,?_⟩
     exact O.1 _ FR
    ·(repeat' first|(with_reducible first|exact⟨⟩|(refine gB ?_;intros)|refine gT ?_ ?_)|refine gs ?_|refine sx ?_)
     rename_i b10 w10 n10 k10 s10 q10 l10
     refine appN k (O.1 _ FR) (k10.2.1 _ FR) (by omega) FR λv' w9 n9 s9 hown9=>?_
     (repeat' first|(with_reducible first|exact⟨⟩|(refine gB ?_;intros)|refine gT ?_ ?_)|refine gs ?_|refine sx ?_)
     refine next_k hk hlt ?_ FR
     (repeat' first|(with_reducible first|exact⟨⟩|(refine gB ?_;intros)|refine gT ?_ ?_)|refine gs ?_|refine sx ?_)
     refine⟨_,rfl,?_⟩
     exact hown9
   ·(repeat' first|(with_reducible first|exact⟨⟩|(refine gB ?_;intros)|refine gT ?_ ?_)|refine gs ?_|refine sx ?_)
    refine next_k hk hlt ?_ FR
    (repeat' first|(with_reducible first|exact⟨⟩|(refine gB ?_;intros)|refine gT ?_ ?_)|refine gs ?_|refine sx ?_)
    refine⟨_,rfl,?_⟩
    exact O.1 _ FR
  ·rintro g wk nk sk bk ⟨hi,hf,v,hv5,hown⟩
   simp(maxDischargeDepth:=3) only[U,↓reduceIte,Nat.reduceEqDiff, *] at hf
   have O:=hown.o
   clear hown
   (repeat' first|(with_reducible first|exact⟨⟩|(refine gB ?_;intros)|refine gT ?_ ?_)|refine gs ?_|refine sx ?_)
   refine⟨_,rfl,?_⟩
   exact(O.1 _ FR).more FR
 ·have e1:(R == 0)=false:=by simpa using h0
  rw[if_neg h0]
  clear hok
  (repeat' first|(with_reducible first|exact⟨⟩|(refine gB ?_;intros)|refine gT ?_ ?_)|refine gs ?_|((with_reducible refine at_f 67 ?_);refine ret_k (hv _ FR FR) λ_ _ _=>?_)|refine sxRef20b0 ?_)
  all_goals exact⟨_,rfl,Own.nil _ _ _ _⟩
theorem idealI_nat(k:Nat):idealI p (k:Int)=idealB p k:=by
 simp[idealI]
theorem ref20Ideals{e:Int}(hB:B≤w.heap.size)(hs:SiteR w B u s)(hl:WishR w B wv l)(hpl:PlanR w B sv av vs p)(he:planErr s (l.map (·.x)) p=e):CallsV Tryz.prog 47 #[.agg (siteC u s).toArray,.agg #[wv],.agg #[sv,av]] w λr w'=>Ext w w'∧∃v,r=.tuple #[v,intV e] ∧
 Own w' w.heap.size 3 1 v ((if e=0 then idealsL p else[]).map natC):=by
 have⟨hn,hx⟩:=bg0 w
 have hs':=hs.sk hB
 have hl':=hl.sk hB
 have hp':=hpl.sk hB
 have hS:=hs'.2.2.2.2.2.2
 have hW:=hl'.2.2
 have hP:=hp'.2.2.2.2.2.2
 have hv:=λw' (h1:Bl B w w') (h3:B≤w'.heap.size)=>ref20Valid h3 (hS w' h1) (hW w' h1) (hP w' h1)
 simp only[he] at hv
 have hok:e=0→Hid (Shape p):=λh=>(planErr_ok (by rw[he];exact h)).1
 (refine callsV_of Tryz.func47 rfl KR KR ?_;rw[Tryz.results47])
 by_cases h0:e=0
 ·subst h0
  have ho:=(hok rfl).out
  have hsm:=ho.small
  have hpow:=two_pow_le hsm
  have hw0:=λw'=>ref20With (w:=w') (set:=0) (i:=p.steps.length) (by decide) (by omega)
  simp only[Nat.zero_add,natV,intV,nat0] at hw0
  replace hw0:Hid _:=hw0
  have hI:=λ(k:Nat) w' (h1:Bl B w w') (h3:B≤w'.heap.size)=>ref20IsIdeal (x:=(k:Int)) h3 (hP w' h1) ho
  simp only[idealI_nat] at hI
  replace hI:Hid _:=hI
  rw[if_pos rfl,idealsL]
  clear hok ho
  (repeat' first|(with_reducible first|exact⟨⟩|(refine gB ?_;intros)|refine gT ?_ ?_)|refine gs ?_|((with_reducible refine at_f 86 ?_);refine ret_k (hv _ FR FR) λ_ _ _=>?_)|refine sxRef20b0 ?_)
  refine loop_o (2^p.steps.length) (λw0 g0 k g w'=>g 10=.int .i64 k∧(g 5=g0 5)∧∃v,g 9=v∧Own w' w0.heap.size 3 1 v (((List.range k).filter (idealB p)).map natC)) KR (by omega) ?_ ?_ ?_
  ·(repeat' first|(with_reducible first|exact⟨⟩|(refine gB ?_;intros)|refine gT ?_ ?_)|refine gs ?_|refine sx ?_)
   exact⟨_,rfl,Own.nil _ _ _ _⟩
  ·rintro k m g wk hk hlt nk sk bk hw ⟨hi,hf,v,hv5,hown⟩
   simp(maxDischargeDepth:=3) only[U,↓reduceIte,Nat.reduceEqDiff, *] at hf
   have bw:Bl wk.heap.size wk wk:=Bl.refl (Nat.le_refl _)
   have O:=hown.o
   have hle:((List.range k).filter (idealB p)).length≤k:=by have:=List.length_filter_le (idealB p) (List.range k);simpa using this
   have hfil:((List.range (k+1)).filter (idealB p))=((List.range k).filter (idealB p))++if idealB p k=true then[k] else[]:=by
    rw[List.range_succ,List.filter_append]
    congr 1
    rw[List.filter_cons]
    split<;>simp_all
   clear hown
   (repeat' first|(with_reducible first|exact⟨⟩|(refine gB ?_;intros)|refine gT ?_ ?_)|refine gs ?_|refine sx ?_)
   refine ret_k (hw0.out _) λw3 n3 s3=>?_
   (repeat' first|(with_reducible first|exact⟨⟩|(refine gB ?_;intros)|refine gT ?_ ?_)|refine gs ?_|refine sx ?_)
   refine ret_k (hI.out k _ FR FR) λw4 n4 s4=>?_
   cases hb:idealB p k
   ·(repeat' first|(with_reducible first|exact⟨⟩|(refine gB ?_;intros)|refine gT ?_ ?_)|refine gs ?_|refine sx ?_)
    refine next_k hk hlt ?_ FR
    (repeat' first|(with_reducible first|exact⟨⟩|(refine gB ?_;intros)|refine gT ?_ ?_)|refine gs ?_|refine sx ?_)
    refine⟨_,rfl,?_⟩
    exact O.1 _ FR
   ·(repeat' first|(with_reducible first|exact⟨⟩|(refine gB ?_;intros)|refine gT ?_ ?_)|refine gs ?_|refine sx ?_)
    rename_i b10 w10 n10 k10 s10 q10 l10
    refine appN k (O.1 _ FR) (k10.2.1 _ FR) (by omega) FR λv' w9 n9 s9 hown9=>?_
    (repeat' first|(with_reducible first|exact⟨⟩|(refine gB ?_;intros)|refine gT ?_ ?_)|refine gs ?_|refine sx ?_)
    refine next_k hk hlt ?_ FR
    (repeat' first|(with_reducible first|exact⟨⟩|(refine gB ?_;intros)|refine gT ?_ ?_)|refine gs ?_|refine sx ?_)
    refine⟨_,rfl,?_⟩
    exact hown9
  ·rintro g wk nk sk bk ⟨hi,hf,v,hv5,hown⟩
   simp(maxDischargeDepth:=3) only[U,↓reduceIte,Nat.reduceEqDiff, *] at hf
   have O:=hown.o
   clear hown
   (repeat' first|(with_reducible first|exact⟨⟩|(refine gB ?_;intros)|refine gT ?_ ?_)|refine gs ?_|refine sx ?_)
   refine ret_k (hw0.out _) λw3 n3 s3=>?_
   (repeat' first|(with_reducible first|exact⟨⟩|(refine gB ?_;intros)|refine gT ?_ ?_)|refine gs ?_|refine sx ?_)
   refine⟨_,rfl,?_⟩
   exact(O.1 _ FR).more FR
 ·have e1:(e == 0)=false:=by simpa using h0
  rw[if_neg h0]
  clear hok
  (repeat' first|(with_reducible first|exact⟨⟩|(refine gB ?_;intros)|refine gT ?_ ?_)|refine gs ?_|((with_reducible refine at_f 86 ?_);refine ret_k (hv _ FR FR) λ_ _ _=>?_)|refine sxRef20b0 ?_)
  all_goals exact⟨_,rfl,Own.nil _ _ _ _⟩
theorem add_bitR{a q:Nat}(ha:a<4096)(hq:q<13)(h:a.testBit q=false):a+2^q=a|||2^q:=by
 have hp:2^q<8192:=Nat.pow_lt_pow_right (m:=q) (n:=13) (by decide) hq
 have hand:BitVec.ofNat 64 a &&& BitVec.ofNat 64 (2^q)=0#64:=by
  apply BitVec.eq_of_getLsbD_eq
  intro i hi
  simp only[BitVec.getLsbD_and,BitVec.getLsbD_ofNat,BitVec.getLsbD_zero,Nat.testBit_two_pow]
  by_cases e:q=i
  ·subst e;simp[h]
  ·simp[e]
 have:=congrArg BitVec.toNat (BitVec.add_eq_or_of_and_eq_zero _ _ hand)
 have m1:a % 2^64=a:=Nat.mod_eq_of_lt (by omega)
 have m2:2^q % 2^64=2^q:=Nat.mod_eq_of_lt (by omega)
 have m3:(a+2^q) % 2^64=a+2^q:=Nat.mod_eq_of_lt (by omega)
 rw[BitVec.toNat_add,BitVec.toNat_or,BitVec.toNat_ofNat,BitVec.toNat_ofNat,m1,m2,m3] at this
 exact this
theorem next_first{q done set:Nat}(h:((enabledL p done).find? λi=>set.testBit i)=some q):∀j,j<q→done.testBit j=true∨set.testBit j=false∨openB p done j=false:=by
 rw[enabledL,List.find?_filter,List.find?_range_eq_some] at h
 intro j hj
 have:=h.2.2 j hj
 cases h1:done.testBit j<;>cases h2:set.testBit j<;>cases h3:openB p done j<;>simp_all
theorem ref20Sequence{x e:Int}(hB:B≤w.heap.size)(hs:SiteR w B u s)(hl:WishR w B wv l)(hpl:PlanR w B sv av vs p)(he:planErr s (l.map (·.x)) p=e):CallsV Tryz.prog 37 #[.agg (siteC u s).toArray,.agg #[wv],.agg #[sv,av],intV x] w λr w'=>Ext w w'∧∃v,r=.tuple #[v,intV (askedE e p x)] ∧
 Own w' w.heap.size 3 1 v ((if askedE e p x=0 then seqF p x.toNat 4096 0 else[]).map natC):=by
 have⟨hn,hx⟩:=bg0 w
 have hs':=hs.sk hB
 have hl':=hl.sk hB
 have hp':=hpl.sk hB
 have hS:=hs'.2.2.2.2.2.2
 have hW:=hl'.2.2
 have hP:=hp'.2.2.2.2.2.2
 have hv:=λw' (h1:Bl B w w') (h3:B≤w'.heap.size)=>ref20asked (x:=x) h3 (hS w' h1) (hW w' h1) (hP w' h1) he
 have hok:askedE e p x=0→Hid (Shape p∧Acyc p∧∃set:Nat,x=set∧set<4096∧idealB p set=true):=λh=>by
  by_cases h0:e=0
  ·rw[h0] at he
   obtain⟨hsh,hac⟩:=planErr_ok he
   refine⟨hsh,hac,x.toNat,?_⟩
   cases hi:idealI p x
   ·simp[askedE,h0,hi] at h
   ·simp only[idealI,Bool.and_eq_true,decide_eq_true_eq] at hi
    have h2:=hi.2
    simp only[idealB,Bool.and_eq_true,decide_eq_true_eq] at h2
    have:=two_pow_le hsh.small
    exact⟨by omega,by omega,hi.2⟩
  ·simp only[askedE,h0,if_false] at h
 generalize askedE e p x=R at *
 replace hok:R=0→Hid _:=hok
 (refine callsV_of Tryz.func37 rfl KR KR ?_;rw[Tryz.results37])
 by_cases h0:R=0
 ·subst h0
  obtain⟨ho,hac,set,rfl,hs4,hib⟩:=(hok rfl).out
  have hop:=λ(done:Nat) (hd:done<4096) k (hk:k<p.steps.length) w' (h1:Bl B w w') (h3:B≤w'.heap.size)=>ref20Open (set:=done) (i:=k) h3 (hP w' h1) ho hd hk
  replace hop:Hid _:=hop
  have hsm:=ho.small
  have hns:=λdone (h1:∀j,done.testBit j=true→set.testBit j=true) (h2:done≠set)=>next_some ho hac hib h1 h2
  replace hns:Hid _:=hns
  have hlt2:set<2^p.steps.length:=by simp only[idealB,Bool.and_eq_true,decide_eq_true_eq] at hib;exact hib.1
  have hpow:=two_pow_le hsm
  clear hok
  (repeat' first|(with_reducible first|exact⟨⟩|(refine gB ?_;intros)|refine gT ?_ ?_)|refine gs ?_|((with_reducible refine at_f 67 ?_);refine ret_k (hv _ FR FR) λ_ _ _=>?_)|refine sxRef20b0 ?_)
  have hLf:(seqF p set 4096 0).length≤4096:=by
   have:∀f done,(seqF p set f done).length≤f:=by
    intro f
    induction f with
    |zero=>intro done;simp[seqF]
    |succ f ih=>
     intro done
     rw[seqF]
     split
     ·simp
     ·split
      ·simp
      ·rename_i i _
       have:=ih (done|||2^i)
       simp only[List.length_cons]
       omega
   exact this _ _
  generalize hLd:seqF p set 4096 0=L at *
  replace hLd:Hid _:=hLd
  refine loop_o L.length (λw0 g0 k g w'=>(g 3=g0 3∧g 6=g0 6)∧∃(done f:Nat) (v:Value),g 12=.int .i64 done∧g 11=v∧Own w' w0.heap.size 3 1 v ((L.take k).map natC)∧Hid (k+f=4096∧set≤f+done∧(∀j,done.testBit j=true→set.testBit j=true)∧seqF p set f done=L.drop k)) KR (by omega) ?_ ?_ ?_
  ·(repeat' first|(with_reducible first|exact⟨⟩|(refine gB ?_;intros)|refine gT ?_ ?_)|refine gs ?_|refine sx ?_)
   refine⟨0,4096,_,rfl,rfl,Own.nil _ _ _ _,⟨by omega,by omega,λj hj=>?_,hLd.out⟩⟩
   rw[Nat.zero_testBit] at hj
   cases hj
  ·rintro k m g wk hk hlt nk sk bk hw ⟨hf,done,f,v,hd12,hv5,hown,hq⟩
   simp(maxDischargeDepth:=3) only[U,↓reduceIte,Nat.reduceEqDiff, *] at hf
   have bw:Bl wk.heap.size wk wk:=Bl.refl (Nat.le_refl _)
   have O:=hown.o
   clear hown
   obtain⟨hkf,hsf,hsub,hseq⟩:=hq.out
   have hdne:¬done=set:=λhd=>by
    have hnil:seqF p set f done=[]:=by
     cases f with
     |zero=>rfl
     |succ f=>rw[seqF,if_pos hd]
    rw[hnil] at hseq
    have:=congrArg List.length hseq
    simp at this
    omega
   have hdle:=le_of_bits hsub
   obtain⟨f',rfl⟩:∃f',f=f'+1:=⟨f - 1,by omega⟩
   obtain⟨q,hqf,hqn,hqs,hqd,hqo⟩:=hns.out done hsub hdne
   have hfst:=next_first hqf
   rw[seqF,if_neg hdne,hqf] at hseq
   simp only at hseq
   rw[List.drop_eq_getElem_cons hlt] at hseq
   obtain⟨hLk,hLr⟩:=List.cons.inj hseq
   have hgt:done<done|||2^q:=by
    refine Nat.lt_of_le_of_ne Nat.left_le_or λhe=>?_
    have:=congrArg (λx=>x.testBit q) he
    simp only[Nat.testBit_or,hqd,Nat.testBit_two_pow_self,Bool.or_true] at this
    cases this
   have hadd:=add_bitR (a:=done) (q:=q) (by omega) (by omega) hqd
   have hinv:Hid (k+1+f'=4096∧set≤f'+(done|||2^q)∧(∀j,(done|||2^q).testBit j=true→set.testBit j=true)∧seqF p set f' (done|||2^q)=L.drop (k+1)):=by
    refine⟨by omega,by omega,λj hj=>?_,hLr⟩
    rw[Nat.testBit_or,Bool.or_eq_true,Nat.testBit_two_pow,decide_eq_true_eq] at hj
    rcases hj with hj|rfl
    ·exact hsub j hj
    ·exact hqs
   have htk:L.take (k+1)=L.take k++[q]:=by rw[List.take_add_one,List.getElem?_eq_getElem hlt,Option.toList_some,←hLk]
   have hle:(L.take k).length≤k:=by simp;omega
   have hd4:done<4096:=by omega
   have hdi:((done:Int) == (set:Int))=false:=by simp;omega
   have hdi2:¬(done:Int)=(set:Int):=by omega
   replace hfst:Hid _:=hfst
   replace hqs:Hid _:=hqs
   replace hqd:Hid _:=hqd
   replace hqo:Hid _:=hqo
   replace hadd:Hid _:=hadd
   replace htk:Hid _:=htk
   clear hq hseq hLr hqf hsub hLk hgt hkf hsf hdle hdne
   (repeat' first|(with_reducible first|exact⟨⟩|(refine gB ?_;intros)|refine gT ?_ ?_)|refine gs ?_|refine sx ?_)
   refine loop_k q (λg0 i g _=>g 13=.int .i64 i∧(g 3=g0 3∧g 6=g0 6∧g 11=g0 11∧g 12=g0 12)) KR (by omega) ?_ ?_ ?_
   ·(repeat' first|(with_reducible first|exact⟨⟩|(refine gB ?_;intros)|refine gT ?_ ?_)|refine gs ?_|refine sx ?_)
   ·rintro i m2 g2 w2 hk2 hlt2 n2 s2 b2 hw2 ⟨hi2,hf2⟩
    simp(maxDischargeDepth:=3) only[U,↓reduceIte,Nat.reduceEqDiff, *] at hf2
    (repeat' first|(with_reducible first|exact⟨⟩|(refine gB ?_;intros)|refine gT ?_ ?_)|refine gs ?_|refine sx ?_)
    refine ret_k (ref20In (set:=done) (i:=i) hd4 (by omega)) λw3 n3 s3=>?_
    cases h1:done.testBit i
    ·(repeat' first|(with_reducible first|exact⟨⟩|(refine gB ?_;intros)|refine gT ?_ ?_)|refine gs ?_|refine sx ?_)
     refine ret_k (ref20In (set:=set) (i:=i) hs4 (by omega)) λw4 n4 s4=>?_
     cases h2:set.testBit i
     ·(repeat' first|(with_reducible first|exact⟨⟩|(refine gB ?_;intros)|refine gT ?_ ?_)|refine gs ?_|refine sx ?_)
      refine next_k hk2 hlt2 ?_ FR
      (repeat' first|(with_reducible first|exact⟨⟩|(refine gB ?_;intros)|refine gT ?_ ?_)|refine gs ?_|refine sx ?_)
     ·have h3:openB p done i=false:=by
       rcases hfst.out i hlt2 with h|h|h
       ·rw[h1] at h;cases h
       ·rw[h2] at h;cases h
       ·exact h
      (repeat' first|(with_reducible first|exact⟨⟩|(refine gB ?_;intros)|refine gT ?_ ?_)|refine gs ?_|refine sx ?_)
      refine ret_k (hop.out done hd4 i (by omega) _ FR FR) λw5 n5 s5=>?_
      rw[h3]
      (repeat' first|(with_reducible first|exact⟨⟩|(refine gB ?_;intros)|refine gT ?_ ?_)|refine gs ?_|refine sx ?_)
      refine next_k hk2 hlt2 ?_ FR
      (repeat' first|(with_reducible first|exact⟨⟩|(refine gB ?_;intros)|refine gT ?_ ?_)|refine gs ?_|refine sx ?_)
    ·(repeat' first|(with_reducible first|exact⟨⟩|(refine gB ?_;intros)|refine gT ?_ ?_)|refine gs ?_|refine sx ?_)
     refine next_k hk2 hlt2 ?_ FR
     (repeat' first|(with_reducible first|exact⟨⟩|(refine gB ?_;intros)|refine gT ?_ ?_)|refine gs ?_|refine sx ?_)
   ·rintro g2 w2 n2 s2 b2 ⟨hi2,hf2⟩
    simp(maxDischargeDepth:=3) only[U,↓reduceIte,Nat.reduceEqDiff, *] at hf2
    (repeat' first|(with_reducible first|exact⟨⟩|(refine gB ?_;intros)|refine gT ?_ ?_)|refine gs ?_|refine sx ?_)
    refine ret_k (ref20In (set:=done) (i:=q) hd4 (by omega)) λw3 n3 s3=>?_
    rw[hqd.out]
    (repeat' first|(with_reducible first|exact⟨⟩|(refine gB ?_;intros)|refine gT ?_ ?_)|refine gs ?_|refine sx ?_)
    refine ret_k (ref20In (set:=set) (i:=q) hs4 (by omega)) λw4 n4 s4=>?_
    rw[hqs.out]
    (repeat' first|(with_reducible first|exact⟨⟩|(refine gB ?_;intros)|refine gT ?_ ?_)|refine gs ?_|refine sx ?_)
    refine ret_k (hop.out done hd4 q hqn _ FR FR) λw5 n5 s5=>?_
    rw[hqo.out]
    (repeat' first|(with_reducible first|exact⟨⟩|(refine gB ?_;intros)|refine gT ?_ ?_)|refine gs ?_|refine sx ?_)
    rename_i b10 w10 n10 k10 s10 q10 l10
    refine appN q (O.1 _ FR) (k10.2.1 _ FR) (by omega) FR λv' w9 n9 s9 hown9=>?_
    (repeat' first|(with_reducible first|exact⟨⟩|(refine gB ?_;intros)|refine gT ?_ ?_)|refine gs ?_|refine sx ?_)
    refine ret_k (ref20With (set:=done) (i:=q) hd4 (by omega)) λw6 n6 s6=>?_
    rw[hadd.out]
    have O9:=hown9.o
    clear hown9
    (repeat' first|(with_reducible first|exact⟨⟩|(refine gB ?_;intros)|refine gT ?_ ?_)|refine gs ?_|refine sx ?_)
    refine next_k hk hlt ?_ FR
    (repeat' first|(with_reducible first|exact⟨⟩|(refine gB ?_;intros)|refine gT ?_ ?_)|refine gs ?_|refine sx ?_)
    refine⟨_,f',_,rfl,rfl,?_,hinv.out⟩
    rw[htk.out]
    exact O9.1 _ FR
  ·rintro g wk nk sk bk ⟨hf,done,f,v,hd12,hv5,hown,hq⟩
   simp(maxDischargeDepth:=3) only[U,↓reduceIte,Nat.reduceEqDiff, *] at hf
   obtain⟨hkf,hsf,hsub,hseq⟩:=hq.out
   have O:=hown.o
   clear hown
   have hde:done=set:=Classical.byContradiction λhd=>by
    obtain⟨q,hqf,_⟩:=hns.out done hsub hd
    have hdle:=le_of_bits hsub
    obtain⟨f',rfl⟩:∃f',f=f'+1:=⟨f - 1,by omega⟩
    rw[seqF,if_neg hd,hqf,List.drop_length] at hseq
    cases hseq
   subst hde
   clear hq
   (repeat' first|(with_reducible first|exact⟨⟩|(refine gB ?_;intros)|refine gT ?_ ?_)|refine gs ?_|refine sx ?_)
   refine⟨_,rfl,?_⟩
   have h:=O.1 wk FR
   rw[List.take_length] at h
   exact h.more FR
 ·have e1:(R == 0)=false:=by simpa using h0
  rw[if_neg h0]
  clear hok
  (repeat' first|(with_reducible first|exact⟨⟩|(refine gB ?_;intros)|refine gT ?_ ?_)|refine gs ?_|((with_reducible refine at_f 67 ?_);refine ret_k (hv _ FR FR) λ_ _ _=>?_)|refine sxRef20b0 ?_)
  all_goals exact⟨_,rfl,Own.nil _ _ _ _⟩
end
end Go.Proofs.YtphciegaokdolaaGreatDoor
