/- Regions of drawn order by relations, where a slot is read before an operation of the head writes it. -/
import Derived.Test.YtphciegaokdolaaGreatDoorRel
import Derived.Test.YtphciegaokdolaaGreatDoorRelT
namespace Go.Proofs.YtphciegaokdolaaGreatDoor
set_option linter.unusedSimpArgs false
set_option linter.unusedVariables false
open Go Go.RowKit
set_option linter.unusedSectionVars false
set_option maxRecDepth 100000
def comesB(ops:Array Oper):Nat→Nat→Nat→Bool
 |0,_,_=>false
 |f+1,j,i=>match ops[j]? with
  |some o=>o.after.any λe=>Region.binds .any e&&(decide (e.on=i)||comesB ops f e.on i)
  |none=>false
section
variable{P:Program}{n m:Nat}{ops:Array Oper}{K:Fr→World→Prop}
theorem unlistedB{listed:Array Bool}{i:Nat}(inv:HeadInv .any ops m listed)(hu:listed.getD i false=false):∀(f j:Nat),comesB ops f j i=true→listed.getD j false=false
 |0,_,h=>by cases h
 |f+1,j,h=>by
  cases hl:listed.getD j false with
  |false=>rfl
  |true=>
   unfold comesB at h
   split at h
   ·rename_i oj hoj
    obtain⟨e,he,h9⟩:=Array.any_eq_true'.1 h
    simp only[Bool.and_eq_true,Bool.or_eq_true,decide_eq_true_eq] at h9
    have hc:=inv.closed j oj hoj hl e he h9.1
    rcases h9.2 with h1|h1
    ·rw[h1,hu] at hc;cases hc
    ·have:=unlistedB inv hu f e.on h1
     rw[this] at hc;cases hc
   ·cases h
theorem head_runW(hops:∀o∈ops.toList,dstOk n o=true)(hB:relB ops m=true){g0:Fr}{w0:World}(R:Nat→Value→World→Prop)(hst:∀i v w w',R i v w→Ext w w'→R i v w')
 (hob:∀i o,i<m→ops[i]? = some o→∀g w,Ext w0 w→(∀e∈o.after,Region.binds .any e=true→∀p d,ops[e.on]? = some p→p.dst=some d→R e.on (g d) w)→Agree ops m g0 g→(∀j p d,j<m→ops[j]? = some p→p.dst=some d→comesB ops ops.size j i=true→g d=g0 d)→relStep P ops o g w λv w'=>Ext w w'∧R i v w')
 (hend:∀g w,Ext w0 w→(∀i p d,i<m→ops[i]? = some p→p.dst=some d→R i (g d) w)→Agree ops m g0 g→wpl P ops (ops.toList.drop m) g w K) :
 ∀(f:Nat) (listed:Array Bool) (a:Act) (g:Fr) (w:World),cnt listed m=f→HeadInv .any ops m listed→Agr n a g→Ext w0 w→(∀i p d,i<m→listed.getD i false=true→ops[i]? = some p→p.dst=some d→R i (g d) w)→Agree ops m g0 g→(∀i p d,i<m→listed.getD i false=false→ops[i]? = some p→p.dst=some d→g d=g0 d) →
 wpAny P .any ops (liftQ n (onNormal K)) (f+(ops.size - m)) listed a w:=by
 simp only[relB,Bool.and_eq_true,decide_eq_true_eq] at hB
 obtain⟨⟨⟨⟨hm,hs⟩,hc⟩,hb⟩,hdist⟩:=hB
 intro f
 induction f with
 |zero=>
  intro listed a g w hcnt inv ha hx hR hag hU
  have hall:=cnt_zero hcnt
  rw[Nat.zero_add]
  exact tail_run hops hc hb _ m listed a g w rfl (Nat.le_refl _) (Nat.le_of_lt hm) inv.size hall (λj h1 h2=>inv.tail j h1 h2) ha (hend g w hx (λi p d hi ho hd=>hR i p d hi (hall i hi) ho hd) hag)
 |succ f ih=>
  intro listed a g w hcnt inv ha hx hR hag hU
  obtain⟨i0,hi0,hu0,hbelow⟩:=cnt_pos (by omega:0<cnt listed m)
  obtain⟨o0,ho0⟩:∃o,ops[i0]? = some o:=⟨ops[i0]'(by omega),by simp⟩
  have hr0:i0∈Region.ready .any ops listed:=mem_ready.2 ⟨getD_in (by rw[inv.size];omega) hu0,o0,ho0,λe he hbd=>hbelow _ (back_spec hb ho0 e he hbd)⟩
  rw[show f+1+(ops.size - m)=(f+(ops.size - m))+1 by omega]
  refine⟨λh0=>(by rw[h0] at hr0;cases hr0),λi hi=>?_⟩
  have him:i<m:=Nat.lt_of_not_le λh=>tail_waits hs hc hm inv _ i0 rfl hi0 (getD_in (by rw[inv.size];omega) hu0) i h hi
  obtain⟨hu,o,ho,hall⟩:=mem_ready.1 hi
  have his:i<listed.size:=by rw[inv.size];omega
  have hod:dstOk n o=true:=hops o (by
   obtain⟨hlt,rfl⟩:=Array.getElem?_eq_some_iff.1 ho
   simp)
  have hcnt':cnt (listed.setIfInBounds i true) m=f:=by
   have:=(cnt_set his (getD_both hu) (m:=m)).2 him
   omega
  have after:∀(v:Value) (w':World) (a':Act),Agr n a' (upo g o.dst v)→Ext w w'∧R i v w'→wpAny P .any ops (liftQ n (onNormal K)) (f+(ops.size - m)) (listed.setIfInBounds i true) a' w':=by
   rintro v w' a' ha' ⟨hx',hRi⟩
   refine ih _ a' (upo g o.dst v) w' hcnt' (inv.set hi him) ha' (hx.trans hx') (λj p d hj hl hp hd=>?_) (λd hd=>?_) (λj p d hj hl hp hd=>?_)
   ·by_cases e:i=j
    ·subst e
     obtain rfl:o=p:=Option.some.inj (ho.symm.trans hp)
     rw[hd]
     simpa [upo,up] using hRi
    ·rw[getD_set_ne false e] at hl
     have h1:=hst _ _ _ _ (hR j p d hj hl hp hd) hx'
     cases hod':o.dst with
     |none=>simpa [upo] using h1
     |some d'=>
      have hne:¬d=d':=by
       rintro rfl
       exact e (dist_spec hdist him hj ho hp hod' hd)
      simpa [upo,up,hne] using h1
   ·rw[←hag d hd]
    cases hod':o.dst with
    |none=>rfl
    |some d'=>
     have hne:¬d=d':=by
      rintro rfl
      exact hd i o him ho hod'
     simp[upo,up,hne]
   ·by_cases e:i=j
    ·subst e
     simp[his] at hl
    ·rw[getD_set_ne false e] at hl
     have h1:=hU j p d hj hl hp hd
     cases hod':o.dst with
     |none=>simpa [upo] using h1
     |some d'=>
      have hne:¬d=d':=by
       rintro rfl
       exact e (dist_spec hdist him hj ho hp hod' hd)
      simpa [upo,up,hne] using h1
  have step:=hob i o him ho g w hx (λe he hbd p d hp hd=>hR e.on p d (by have:=back_spec hb ho e he hbd;omega) (hall e he hbd) hp hd) hag (λj p d hj hp hd hre=>hU j p d hj (unlistedB inv (getD_both hu) ops.size j hre) hp hd)
  unfold wpOp
  simp only[ho]
  rw[wanted_eq ha ops hops o]
  unfold relStep at step
  split at step
  ·rename_i hg
   rw[if_pos hg]
   exact .inl (Oper_wp_of_wp1 hod ha (opX_sound step) λv w' a' ha' hk'=>after v w' a' ha' hk')
  ·rename_i hg
   rw[if_neg hg]
   exact after undef w _ (ha.put _ _ (dstOk_lt hod)) step
theorem wpd_relW{id:Nat}{l:List Oper}{g0:Fr}{w0:World}(m:Nat)(R:Nat→Value→World→Prop)(hm:P.follows .mixedOrders=true)(hB:relB l.toArray m=true)(hd:l.all (dstOk n)=true)(hst:∀i v w w',R i v w→Ext w w'→R i v w')
 (hob:∀i o,i<m→l[i]? = some o→∀g w,Ext w0 w→(∀e∈o.after,Region.binds .any e=true→∀p d,l[e.on]? = some p→p.dst=some d→R e.on (g d) w)→Agree l.toArray m g0 g→(∀j p d,j<m→l[j]? = some p→p.dst=some d→comesB l.toArray l.toArray.size j i=true→g d=g0 d)→relStep P l.toArray o g w λv w'=>Ext w w'∧R i v w')
 (hend:∀g w,Ext w0 w→(∀i p d,i<m→l[i]? = some p→p.dst=some d→R i (g d) w)→Agree l.toArray m g0 g→wpl P l.toArray (l.drop m) g w K):wpd P n id l.toArray g0 w0 K:=by
 intro a ha
 rw[List.all_eq_true] at hd
 have hB':=hB
 simp only[relB,Bool.and_eq_true,decide_eq_true_eq] at hB'
 have hsz:m<l.length:=by simpa using hB'.1.1.1.1
 refine wp_region_any hm ?_
 have hall:∀k,k≤m→cnt (Array.replicate l.toArray.size false) k=k:=by
  intro k
  induction k with
  |zero=>intro _;rfl
  |succ k ih=>intro hk;simp only[cnt,ih (by omega),getD_replicate_false];simp
 have H:=head_runW (P:=P) (n:=n) (K:=K) (ops:=l.toArray) (g0:=g0) (w0:=w0) (by simpa using hd) hB R hst (by simpa using hob) (by simpa using hend) m (Array.replicate l.toArray.size false) a g0 { w0 with drawn:=w0.drawn+1 } (hall m (Nat.le_refl _))
  ⟨by simp,λj oj _ hl=>(by rw[getD_replicate_false] at hl;cases hl),λt _ ht=>getD_in (by simpa using ht) (getD_replicate_false _ _)⟩ ha (Ext.drawn w0 _) (λi p d _ hl=>(by rw[getD_replicate_false] at hl;cases hl)) (λd _=>rfl) (λ_ _ _ _ _ _ _=>rfl)
 rw[show m+(l.toArray.size - m)=l.toArray.size by simp;omega] at H
 exact H
end
section
variable{P:Program}{n m:Nat}{ops:Array Oper}{K:Fr→World→Prop}
theorem head_runTW(hops:∀o∈ops.toList,dstOk n o=true)(hB:relTB ops m=true){g0:Fr}{w0:World}(RB:List Nat)(bk:Nat→Option Nat)(R:Nat→Value→World→Prop)(hbk:∀i b,bk i=some b→b∈RB∧b<w0.heap.size)(hinj:∀i j b,bk i=some b→bk j=some b→i=j)
 (hst:∀i v w w',R i v w→TBn (λb=>b∈RB∧bk i≠some b∧∀k,bk k=some b→comesB ops ops.size i k=false) w w'→R i v w')
 (hob:∀i o,i<m→ops[i]? = some o→∀g w,TBn (λb=>b∈RB) w0 w→(∀e∈o.after,Region.binds .any e=true→∀p d,ops[e.on]? = some p→p.dst=some d→R e.on (g d) w)→Agree ops m g0 g→(∀j b,j<m→bk j=some b→befB ops j i=true→w.heap[b]? = w0.heap[b]?)→(∀j p d,j<m→ops[j]? = some p→p.dst=some d→comesB ops ops.size j i=true→g d=g0 d)→(bk i=none→relStep P ops o g w λv w'=>Ext w w'∧R i v w')∧(∀b,bk i=some b→w.heap[b]? = w0.heap[b]?→relStep P ops o g w λv w'=>Chg w w' b∧R i v w'))
 (hend:∀g w,TBn (λb=>b∈RB) w0 w→(∀i p d,i<m→ops[i]? = some p→p.dst=some d→R i (g d) w)→(∀i b,i<m→bk i=some b→∃v,R i v w)→Agree ops m g0 g→wpl P ops (ops.toList.drop m) g w K) :
 ∀(f:Nat) (listed:Array Bool) (a:Act) (g:Fr) (w:World),cnt listed m=f→HeadInv .any ops m listed→Agr n a g→TBn (λb=>b∈RB) w0 w→(∀i p d,i<m→listed.getD i false=true→ops[i]? = some p→p.dst=some d→R i (g d) w)→(∀i b,i<m→listed.getD i false=true→bk i=some b→∃v,R i v w) →
 (∀i b,i<m→listed.getD i false=false→bk i=some b→w.heap[b]? = w0.heap[b]?)→Agree ops m g0 g→(∀i p d,i<m→listed.getD i false=false→ops[i]? = some p→p.dst=some d→g d=g0 d)→wpAny P .any ops (liftQ n (onNormal K)) (f+(ops.size - m)) listed a w:=by
 simp only[relTB,Bool.and_eq_true,decide_eq_true_eq] at hB
 obtain⟨⟨⟨⟨hm,hs⟩,hc⟩,hb⟩,hdist⟩:=hB
 intro f
 induction f with
 |zero=>
  intro listed a g w hcnt inv ha hx hR hS hU hag hW
  have hall:=cnt_zero hcnt
  rw[Nat.zero_add]
  exact tail_run hops hc hb _ m listed a g w rfl (Nat.le_refl _) (Nat.le_of_lt hm) inv.size hall (λj h1 h2=>inv.tail j h1 h2) ha (hend g w hx (λi p d hi ho hd=>hR i p d hi (hall i hi) ho hd) (λi b hi hk=>hS i b hi (hall i hi) hk) hag)
 |succ f ih=>
  intro listed a g w hcnt inv ha hx hR hS hU hag hW
  obtain⟨i0,hi0,hu0,hbelow⟩:=cnt_pos (by omega:0<cnt listed m)
  obtain⟨o0,ho0⟩:∃o,ops[i0]? = some o:=⟨ops[i0]'(by omega),by simp⟩
  have hr0:i0∈Region.ready .any ops listed:=mem_ready.2 ⟨getD_in (by rw[inv.size];omega) hu0,o0,ho0,λe he hbd=>hbelow _ (back_spec hb ho0 e he hbd)⟩
  rw[show f+1+(ops.size - m)=(f+(ops.size - m))+1 by omega]
  refine⟨λh0=>(by rw[h0] at hr0;cases hr0),λi hi=>?_⟩
  have him:i<m:=Nat.lt_of_not_le λh=>tail_waits hs hc hm inv _ i0 rfl hi0 (getD_in (by rw[inv.size];omega) hu0) i h hi
  obtain⟨hu,o,ho,hall⟩:=mem_ready.1 hi
  have his:i<listed.size:=by rw[inv.size];omega
  have hod:dstOk n o=true:=hops o (by
   obtain⟨hlt,rfl⟩:=Array.getElem?_eq_some_iff.1 ho
   simp)
  have hcnt':cnt (listed.setIfInBounds i true) m=f:=by
   have:=(cnt_set his (getD_both hu) (m:=m)).2 him
   omega
  have after:∀(v:Value) (w':World) (a':Act),Agr n a' (upo g o.dst v)→(∀j,j≠i→listed.getD j false=true→TBn (λb=>b∈RB∧bk j≠some b∧∀k,bk k=some b→comesB ops ops.size j k=false) w w')→TBn (λb=>b∈RB) w w'→(∀j b,j≠i→bk j=some b→w'.heap[b]? = w.heap[b]?)→R i v w'→wpAny P .any ops (liftQ n (onNormal K)) (f+(ops.size - m)) (listed.setIfInBounds i true) a' w':=by
   intro v w' a' ha' hT hT0 hK hRi
   refine ih _ a' (upo g o.dst v) w' hcnt' (inv.set hi him) ha' (hx.trans hT0) (λj p d hj hl hp hd=>?_) (λj b hj hl hk=>?_) (λj b hj hl hk=>?_) (λd hd=>?_) (λj p d hj hl hp hd=>?_)
   ·by_cases e:i=j
    ·subst e
     obtain rfl:o=p:=Option.some.inj (ho.symm.trans hp)
     rw[hd]
     simpa [upo,up] using hRi
    ·rw[getD_set_ne false e] at hl
     have h1:=hst _ _ _ _ (hR j p d hj hl hp hd) (hT j (λh=>e h.symm) hl)
     cases hod':o.dst with
     |none=>simpa [upo] using h1
     |some d'=>
      have hne:¬d=d':=by
       rintro rfl
       exact e (dist_spec hdist him hj ho hp hod' hd)
      simpa [upo,up,hne] using h1
   ·by_cases e:i=j
    ·subst e
     exact⟨v,hRi⟩
    ·rw[getD_set_ne false e] at hl
     obtain⟨v',hv'⟩:=hS j b hj hl hk
     exact⟨v',hst _ _ _ _ hv' (hT j (λh=>e h.symm) hl)⟩
   ·by_cases e:i=j
    ·subst e
     simp[his] at hl
    ·rw[getD_set_ne false e] at hl
     exact(hK j b (λh=>e h.symm) hk).trans (hU j b hj hl hk)
   ·rw[←hag d hd]
    cases hod':o.dst with
    |none=>rfl
    |some d'=>
     have hne:¬d=d':=by
      rintro rfl
      exact hd i o him ho hod'
     simp[upo,up,hne]
   ·by_cases e:i=j
    ·subst e
     simp[his] at hl
    ·rw[getD_set_ne false e] at hl
     have h1:=hW j p d hj hl hp hd
     cases hod':o.dst with
     |none=>simpa [upo] using h1
     |some d'=>
      have hne:¬d=d':=by
       rintro rfl
       exact e (dist_spec hdist him hj ho hp hod' hd)
      simpa [upo,up,hne] using h1
  have step:=hob i o him ho g w hx (λe he hbd p d hp hd=>hR e.on p d (by have:=back_spec hb ho e he hbd;omega) (hall e he hbd) hp hd) hag (λj b hj hk hbe=>hU j b hj (by
   cases hlj:listed.getD j false with
   |false=>rfl
   |true=>
    exfalso
    unfold befB at hbe
    split at hbe
    ·rename_i oj hoj
     obtain⟨e,he,h9⟩:=Array.any_eq_true'.1 hbe
     simp only[Bool.and_eq_true,decide_eq_true_eq] at h9
     have:=inv.closed j oj hoj hlj e he h9.1
     rw[h9.2,getD_both hu] at this
     cases this
    ·cases hbe) hk) (λj p d hj hp hd hre=>hW j p d hj (unlistedB inv (getD_both hu) ops.size j hre) hp hd)
  unfold wpOp
  simp only[ho]
  rw[wanted_eq ha ops hops o]
  cases hki:bk i with
  |none=>
   have go:∀(v:Value) (w':World) (a':Act),Agr n a' (upo g o.dst v)→Ext w w'∧R i v w'→wpAny P .any ops (liftQ n (onNormal K)) (f+(ops.size - m)) (listed.setIfInBounds i true) a' w':=λv w' a' ha' ⟨h1,h2⟩=>
    after v w' a' ha' (λ_ _ _=>TBn.of_ext h1) (TBn.of_ext h1) (λj b _ hk=>h1.block b (Nat.lt_of_lt_of_le (hbk j b hk).2 hx.size)) h2
   have st1:=step.1 hki
   unfold relStep at st1
   split at st1
   ·rename_i hg
    rw[if_pos hg]
    exact .inl (Oper_wp_of_wp1 hod ha (opX_sound st1) λv w' a' ha' hk'=>go v w' a' ha' hk')
   ·rename_i hg
    rw[if_neg hg]
    exact go undef w _ (ha.put _ _ (dstOk_lt hod)) st1
  |some b=>
   have go:∀(v:Value) (w':World) (a':Act),Agr n a' (upo g o.dst v)→Chg w w' b∧R i v w'→wpAny P .any ops (liftQ n (onNormal K)) (f+(ops.size - m)) (listed.setIfInBounds i true) a' w':=λv w' a' ha' ⟨h1,h2⟩=>
    after v w' a' ha' (λj hj hl=>TBn.of_chg h1 ⟨(hbk i b hki).1,λe=>hj (hinj _ _ _ e hki),λk hk=>by
     obtain rfl:=hinj _ _ _ hk hki
     cases hre:comesB ops ops.size j k with
     |false=>rfl
     |true=>have h5:=unlistedB inv (getD_both hu) ops.size j hre;rw[hl] at h5;cases h5⟩) (TBn.of_chg h1 (hbk i b hki).1) (λj c hj hk=>h1.block c (Nat.lt_of_lt_of_le (hbk j c hk).2 hx.size) (λe=>hj (hinj _ _ _ (e▸hk) hki))) h2
   have st1:=step.2 b hki (hU i b him (getD_both hu) hki)
   unfold relStep at st1
   split at st1
   ·rename_i hg
    rw[if_pos hg]
    exact .inl (Oper_wp_of_wp1 hod ha (opX_sound st1) λv w' a' ha' hk'=>go v w' a' ha' hk')
   ·rename_i hg
    rw[if_neg hg]
    exact go undef w _ (ha.put _ _ (dstOk_lt hod)) st1
theorem wpd_relTW{id:Nat}{l:List Oper}{g0:Fr}{w0:World}(m:Nat)(RB:List Nat)(bk:Nat→Option Nat)(R:Nat→Value→World→Prop)(hm:P.follows .mixedOrders=true)(hB:relTB l.toArray m=true)(hd:l.all (dstOk n)=true)(hbk:∀i b,bk i=some b→b∈RB∧b<w0.heap.size)(hinj:∀i j b,bk i=some b→bk j=some b→i=j)
 (hst:∀i v w w',R i v w→TBn (λb=>b∈RB∧bk i≠some b∧∀k,bk k=some b→comesB l.toArray l.toArray.size i k=false) w w'→R i v w')
 (hob:∀i o,i<m→l[i]? = some o→∀g w,TBn (λb=>b∈RB) w0 w→(∀e∈o.after,Region.binds .any e=true→∀p d,l[e.on]? = some p→p.dst=some d→R e.on (g d) w)→Agree l.toArray m g0 g→(∀j b,j<m→bk j=some b→befB l.toArray j i=true→w.heap[b]? = w0.heap[b]?)→(∀j p d,j<m→l[j]? = some p→p.dst=some d→comesB l.toArray l.toArray.size j i=true→g d=g0 d)→(bk i=none→relStep P l.toArray o g w λv w'=>Ext w w'∧R i v w')∧(∀b,bk i=some b→w.heap[b]? = w0.heap[b]?→relStep P l.toArray o g w λv w'=>Chg w w' b∧R i v w'))
 (hend:∀g w,TBn (λb=>b∈RB) w0 w→(∀i p d,i<m→l[i]? = some p→p.dst=some d→R i (g d) w)→(∀i b,i<m→bk i=some b→∃v,R i v w)→Agree l.toArray m g0 g→wpl P l.toArray (l.drop m) g w K):wpd P n id l.toArray g0 w0 K:=by
 intro a ha
 rw[List.all_eq_true] at hd
 have hB':=hB
 simp only[relTB,Bool.and_eq_true,decide_eq_true_eq] at hB'
 have hsz:m<l.length:=by simpa using hB'.1.1.1.1
 refine wp_region_any hm ?_
 have hall:∀k,k≤m→cnt (Array.replicate l.toArray.size false) k=k:=by
  intro k
  induction k with
  |zero=>intro _;rfl
  |succ k ih=>intro hk;simp only[cnt,ih (by omega),getD_replicate_false];simp
 have H:=head_runTW (P:=P) (n:=n) (K:=K) (ops:=l.toArray) (g0:=g0) (w0:=w0) (by simpa using hd) hB RB bk R hbk hinj hst (by simpa using hob) (by simpa using hend) m (Array.replicate l.toArray.size false) a g0 { w0 with drawn:=w0.drawn+1 } (hall m (Nat.le_refl _))
  ⟨by simp,λj oj _ hl=>(by rw[getD_replicate_false] at hl;cases hl),λt _ ht=>getD_in (by simpa using ht) (getD_replicate_false _ _)⟩ ha (TBn.of_ext (Ext.drawn w0 _)) (λi p d _ hl=>(by rw[getD_replicate_false] at hl;cases hl)) (λi b _ hl=>(by rw[getD_replicate_false] at hl;cases hl)) (λ_ _ _ _ _=>rfl) (λd _=>rfl) (λ_ _ _ _ _ _ _=>rfl)
 rw[show m+(l.toArray.size - m)=l.toArray.size by simp;omega] at H
 exact H
theorem wpd_relLW{id:Nat}{l:List Oper}{g0:Fr}{w0:World}(m:Nat)(RB:List Nat)(L:List (Nat×Nat))(hL:L.map (·.2)=RB)(R:Nat→Value→World→Prop)(hm:P.follows .mixedOrders=true)(hB:relTB l.toArray m=true)(hd:l.all (dstOk n)=true)(hlt:∀b∈RB,b<w0.heap.size)(hnd:RB.Nodup)
 (hst:∀i v w w',R i v w→TBn (λb=>b∈RB∧bkL L i≠some b∧∀k,bkL L k=some b→comesB l.toArray l.toArray.size i k=false) w w'→R i v w')
 (hob:∀i o,i<m→l[i]? = some o→∀g w,TBn (λb=>b∈RB) w0 w→(∀e∈o.after,Region.binds .any e=true→∀p d,l[e.on]? = some p→p.dst=some d→R e.on (g d) w)→Agree l.toArray m g0 g→(∀j b,j<m→bkL L j=some b→befB l.toArray j i=true→w.heap[b]? = w0.heap[b]?)→(∀j p d,j<m→l[j]? = some p→p.dst=some d→comesB l.toArray l.toArray.size j i=true→g d=g0 d)→(bkL L i=none→relStep P l.toArray o g w λv w'=>Ext w w'∧R i v w')∧(∀b,bkL L i=some b→w.heap[b]? = w0.heap[b]?→relStep P l.toArray o g w λv w'=>Chg w w' b∧R i v w'))
 (hend:∀g w,TBn (λb=>b∈RB) w0 w→(∀i p d,i<m→l[i]? = some p→p.dst=some d→R i (g d) w)→(∀i b,i<m→bkL L i=some b→∃v,R i v w)→Agree l.toArray m g0 g→wpl P l.toArray (l.drop m) g w K):wpd P n id l.toArray g0 w0 K:=by
 subst hL
 exact wpd_relTW m (L.map (·.2)) (bkL L) R hm hB hd (λi b h=>⟨bkL_mem h,hlt b (bkL_mem h)⟩) (λi j b h1 h2=>bkL_inj hnd h1 h2) hst hob hend
end
end Go.Proofs.YtphciegaokdolaaGreatDoor
