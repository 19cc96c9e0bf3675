/- A loop over an iterator: the round's body and what follows the loop, in the engine's words (the kit's law for a range over a function, at the wide fence). -/
import Derived.RangeFuncNested
import Derived.RangeFuncBound
import Derived.RangeFuncCalls
import Derived.RangeFuncLeaves
import Derived.RangeFuncBox
import Derived.OrdersIn
import Derived.Test.YtphciegaokdolaaGreatDoorRel
import Derived.Shelf.Abstract
import Derived.Shelf.RegionOpen
import Derived.WalkKit
import Derived.OwnWalkIn
import Derived.TacticsInMore
import Derived.LoopNIn
import Derived.LoopIn
import Derived.Test.YtphciegaokdolaaGreatDoorPureX24
namespace Go.Proofs.YtphciegaokdolaaGreatDoor
set_option linter.unusedSimpArgs false
set_option linter.unusedVariables false
open Go Go.RowKit
set_option maxRecDepth 100000
set_option linter.unusedSectionVars false
def Fw(ro:Option Nat):Fence:={ Fence.wide with round:=ro }
def noDf(o:Oper):Bool:=match o.op with
 |.defer _=>false
 |_=>true
def flatB:Code→Bool
 |.skip=>true
 |.region _ ops _=>ops.toList.all noDf
 |.seq x y=>flatB x&&flatB y
 |.cond _ x y=>flatB x&&flatB y
 |.block _ c=>flatB c
 |.ret=>true
 |_=>false
theorem noDf_ne{o:Oper}(h:noDf o=true):∀c,o.op≠.defer c:=λc e=>by simp[noDf,e] at h
def wD(ds:List Deferred)(a:Act):Act:={ a with defers:=ds }
theorem wD_put(ds:List Deferred)(a:Act)(d:Option Nat)(v:Value):(wD ds a).put d v=wD ds (a.put d v):=by cases d<;>rfl
theorem wD_eval(ds:List Deferred)(a:Act):(wD ds a).eval=a.eval:=by funext x;cases x<;>rfl
theorem callsFw{ro:Option Nat}{m:Nat}{P:Program}{f:FuncId}{args:Array Value}{w:World}{R:Ending→World→Prop}(h:Calls P f args w R):CallsIn (Fw ro) m P f args w R:=(callsIn_wide (n:=m)).2 h
theorem rowsFw{ro:Option Nat}{m:Nat}{P:Program}{row:String}{args:Array Value}{w:World}{R:Value→World→Prop}(h:Rows P row args w R):RowsIn (Fw ro) m P row args w R:=λc cs _=>
 let ⟨v,w',r,s⟩:=h c cs;⟨v,w',r,stepsIn_wide.2 s⟩
theorem put_df(a:Act)(d:Option Nat)(v:Value):(a.put d v).defers=a.defers:=by cases d<;>rfl
section
variable{P:Program}{ro:Option Nat}{m:Nat}{ds:List Deferred}{Q Q':Exit→Act→World→Prop}
theorem op_leaf{o:Oper}{a:Act}{w:World}{K:Act→World→Prop}(hL:¬LetsOut Q)(hP:∀ch a w,¬Q (.panic ch) a w)(h:o.wp P a w K Q):∃a' w',K a' w'∧a.defers.length≤a'.defers.length:=by
 unfold Oper.wp at h
 generalize (execOp a.eval o).run P w=r at *
 have hp:∀v,a.defers.length≤(a.put o.dst v).defers.length:=λv=>by rw[put_df];exact Nat.le_refl _
 match r,h with
 |.ok (.value v) w',h=>exact⟨_,_,h,hp _⟩
 |.ok .skip w',h=>exact⟨_,_,h,hp _⟩
 |.ok (.defer d) w',h=>exact⟨_,_,h,by rw[put_df];exact Nat.le_succ _⟩
 |.ok (.enter f args) w',h=>
  obtain⟨e,w'',_,hR,_⟩:=(show Calls P f args w' _ from h) []
  cases e with
  |returned v=>exact⟨_,_,hR,hp _⟩
  |panicked ch=>exact absurd hR (hP _ _ _)
  |outgrown=>exact absurd hR hL
 |.ok (.row row args) w',h=>
  obtain⟨v,w'',hR,_⟩:=(show Rows P row args w' _ from h) default []
  exact⟨_,_,hR,hp _⟩
 |.halt (.panic v) w',h=>exact absurd h (hP _ _ _)
 |.ok (.round l f t asg b) w',h=>exact h.elim
theorem any_leaf{md:Region.Mode}{ops:Array Oper}(hL:¬LetsOut Q)(hP:∀ch a w,¬Q (.panic ch) a w):∀(d:Nat) (listed:Array Bool) (a:Act) (w:World),wpAny P md ops Q d listed a w→∃a' w',Q .normal a' w'∧a.defers.length≤a'.defers.length
 |0,listed,a,w,h=>⟨a,w,h.2,Nat.le_refl _⟩
 |d+1,listed,a,w,h=>by
  cases hr:Region.ready md ops listed with
  |nil=>exact⟨a,w,h.1 hr,Nat.le_refl _⟩
  |cons i r=>
   have h1:=h.2 i (by rw[hr];exact List.mem_cons_self ..)
   unfold wpOp at h1
   cases ho:ops[i]? with
   |none=>rw[ho] at h1;exact any_leaf hL hP d _ _ _ h1
   |some o=>
    rw[ho] at h1
    simp only at h1
    split at h1
    ·obtain⟨a',w',h2,h3⟩:=op_leaf hL hP (h1.resolve_right λx=>hL x.2)
     obtain⟨a2,w2,h4,h5⟩:=any_leaf hL hP d _ _ _ h2
     exact⟨a2,w2,h4,Nat.le_trans h3 h5⟩
    ·obtain⟨a2,w2,h4,h5⟩:=any_leaf hL hP d _ _ _ h1
     exact⟨a2,w2,h4,by rw[put_df] at h5;exact h5⟩
theorem list_leaf{ops:Array Oper}(hL:¬LetsOut Q)(hP:∀ch a w,¬Q (.panic ch) a w):∀(l:List Oper) (a:Act) (w:World),wpList P ops Q l a w→∃a' w',Q .normal a' w'∧a.defers.length≤a'.defers.length
 |[],a,w,h=>⟨a,w,h,Nat.le_refl _⟩
 |o::rest,a,w,h=>by
  unfold wpList at h
  split at h
  ·obtain⟨a',w',h2,h3⟩:=op_leaf hL hP (h.resolve_right λx=>hL x.2)
   obtain⟨a2,w2,h4,h5⟩:=list_leaf hL hP rest _ _ h2
   exact⟨a2,w2,h4,Nat.le_trans h3 h5⟩
  ·obtain⟨a2,w2,h4,h5⟩:=list_leaf hL hP rest _ _ h
   exact⟨a2,w2,h4,by rw[put_df] at h5;exact h5⟩
theorem op_in{o:Oper}{a:Act}{w:World}{K K':Act→World→Prop}(hnd:noDf o=true)(hL:¬LetsOut Q)(hKd:∀a' w',K a' w'→a'.defers=[])(hQ:∀e a w,Q e a w→Q' e (wD ds a) w)(hK:∀a' w',K a' w'→K' (wD ds a') w')(h:o.wp P a w K Q):o.wpIn (Fw ro) m P (wD ds a) w K' Q':=by
 refine⟨λ_ _=>trivial,?_⟩
 rw[Oper.semAt_eq _ _ _ (noDf_ne hnd),wD_eval]
 unfold Oper.wp at h
 generalize (execOp a.eval o).run P w=r at *
 have hdep:∀k,(Fw ro).depth.isSome=true→1≤k:=λk h=>by simp[Fw,Fence.wide] at h
 match r,h with
 |.ok (.value v) w',h=>show K' ((wD ds a).put o.dst v) w';rw[wD_put];exact hK _ _ h
 |.ok .skip w',h=>show K' ((wD ds a).put o.dst undef) w';rw[wD_put];exact hK _ _ h
 |.ok (.defer d) w',h=>exact absurd (hKd _ _ h) (by rw[put_df];exact List.cons_ne_nil _ _)
 |.ok (.enter f args) w',h=>
  refine⟨hdep _,(callsFw h).mono λe w'' h'=>?_⟩
  cases e with
  |returned v=>show K' ((wD ds a).put o.dst v) w'';rw[wD_put];exact hK _ _ h'
  |panicked ch=>exact hQ _ _ _ h'
  |outgrown=>exact absurd h' hL
 |.ok (.row row args) w',h=>
  refine⟨hdep _,(rowsFw h).mono λv w'' h'=>?_⟩
  show K' ((wD ds a).put o.dst v) w''
  rw[wD_put];exact hK _ _ h'
 |.halt (.panic v) w',h=>exact hQ _ _ _ h
 |.ok (.round l f t asg b) w',h=>exact h.elim
theorem any_in{md:Region.Mode}{ops:Array Oper}(hnd:∀(i:Nat) (o:Oper),ops[i]? = some o→noDf o=true)(hL:¬LetsOut Q)(hP:∀ch a w,¬Q (.panic ch) a w)(hN:∀a w,Q .normal a w→a.defers=[])(hQ:∀e a w,Q e a w→Q' e (wD ds a) w):∀(d:Nat) (listed:Array Bool) (a:Act) (w:World),wpAny P md ops Q d listed a w→wpAnyIn (Fw ro) m P md ops Q' d listed (wD ds a) w
 |0,listed,a,w,h=>⟨h.1,hQ _ _ _ h.2⟩
 |d+1,listed,a,w,h=>⟨λe=>hQ _ _ _ (h.1 e),λi hi=>by
  have h1:=h.2 i hi
  unfold wpOp at h1
  unfold wpOpIn
  cases ho:ops[i]? with
  |none=>rw[ho] at h1;exact any_in hnd hL hP hN hQ d _ _ _ h1
  |some o=>
   rw[ho] at h1
   simp only at h1 ⊢
   by_cases hw:Region.wanted o (yielded ops a.tmps)=true
   ·rw[if_pos hw] at h1
    rw[if_pos (show Region.wanted o (yielded ops (wD ds a).tmps)=true from hw)]
    exact op_in (hnd i o ho) hL (λa' w' h=>by obtain⟨a2,w2,h2,h3⟩:=any_leaf hL hP d _ _ _ h;rw[hN _ _ h2] at h3;exact List.eq_nil_of_length_eq_zero (by simpa using h3)) hQ (λa' w' h=>any_in hnd hL hP hN hQ d _ _ _ h) (h1.resolve_right λx=>hL x.2)
   ·rw[if_neg hw] at h1
    rw[if_neg (show ¬Region.wanted o (yielded ops (wD ds a).tmps)=true from hw)]
    refine⟨λ_ _=>trivial,?_⟩
    rw[wD_put]
    exact any_in hnd hL hP hN hQ d _ _ _ h1⟩
theorem list_in{ops:Array Oper}(hL:¬LetsOut Q)(hP:∀ch a w,¬Q (.panic ch) a w)(hN:∀a w,Q .normal a w→a.defers=[])(hQ:∀e a w,Q e a w→Q' e (wD ds a) w):∀(l:List Oper) (a:Act) (w:World),(∀o∈l,noDf o=true)→wpList P ops Q l a w→wpListIn (Fw ro) m P ops Q' l (wD ds a) w
 |[],a,w,_,h=>hQ _ _ _ h
 |o::rest,a,w,hnd,h=>by
  have hr:∀o'∈rest,noDf o'=true:=λo' h'=>hnd o' (List.mem_cons_of_mem _ h')
  unfold wpList at h
  unfold wpListIn
  by_cases hw:Region.wanted o (yielded ops a.tmps)=true
  ·rw[if_pos hw] at h
   rw[if_pos (show Region.wanted o (yielded ops (wD ds a).tmps)=true from hw)]
   exact op_in (hnd o (List.mem_cons_self ..)) hL (λa' w' h=>by obtain⟨a2,w2,h2,h3⟩:=list_leaf hL hP rest _ _ h;rw[hN _ _ h2] at h3;exact List.eq_nil_of_length_eq_zero (by simpa using h3)) hQ (λa' w' h=>list_in hL hP hN hQ rest _ _ hr h) (h.resolve_right λx=>hL x.2)
  ·rw[if_neg hw] at h
   rw[if_neg (show ¬Region.wanted o (yielded ops (wD ds a).tmps)=true from hw)]
   refine⟨λ_ _=>trivial,?_⟩
   rw[wD_put]
   exact list_in hL hP hN hQ rest _ _ hr h
end
def wpdR(P:Program)(n:Nat)(ops:Array Oper)(g:Fr)(w:World)(K:Fr→World→Prop):Prop:=P.follows .mixedOrders=true∧∀a,Agr n a g→wpAny P .any ops (liftQ n (onNormal K)) ops.size (Array.replicate ops.size false) a { w with drawn:=w.drawn+1 }
def wpf(P:Program)(n:Nat):Code→(Exit→Fr→World→Prop)→Fr→World→Prop
 |.skip,Q,g,w=>Q .normal g w
 |.region _ ops false,Q,g,w=>wpl P ops ops.toList g w (Q .normal)
 |.region _ ops true,Q,g,w=>wpdR P n ops g w (Q .normal)
 |.seq x y,Q,g,w=>wpf P n x (thenX (wpf P n y Q) Q) g w
 |.cond c x y,Q,g,w=>condX (ev g c) w (λw=>wpf P n x Q g w) (λw=>wpf P n y Q g w)
 |.block id c,Q,g,w=>wpf P n c (blockX id Q) g w
 |.ret,Q,g,w=>Q .ret g w
 |_,_,_,_=>False
theorem Xf :
 (∀(P:Program) (n:Nat) Q g w,Now w→wpf P n .skip Q g w=Q .normal g w) ∧
 (∀(P:Program) (n:Nat) id (l:List Oper) Q g w,Now w→wpf P n (.region id l.toArray false) Q g w=wpl P l.toArray l g w (Q .normal)) ∧
 (∀(P:Program) (n:Nat) id ops Q g w,Now w→wpf P n (.region id ops true) Q g w=wpdR P n ops g w (Q .normal)) ∧
 (∀(P:Program) (n:Nat) x y Q g w,Now w→wpf P n (.seq x y) Q g w=wpf P n x (thenX (wpf P n y Q) Q) g w) ∧
 (∀(P:Program) (n:Nat) c x y Q g w,Now w→wpf P n (.cond c x y) Q g w=condX (ev g c) w (wpf P n x Q g) (wpf P n y Q g)) ∧
 (∀(P:Program) (n:Nat) id c Q g w,Now w→wpf P n (.block id c) Q g w=wpf P n c (blockX id Q) g w) ∧
 (∀(P:Program) (n:Nat) Q g w,Now w→wpf P n .ret Q g w=Q .ret g w):=by
 repeat' apply And.intro
 all_goals (intros;rfl)
def LiftD(n:Nat)(ds:List Deferred)(Q:Exit→Fr→World→Prop):Exit→Act→World→Prop:=λe a w=>∃a0 g,Agr n a0 g∧a=wD ds a0∧Q e g w
theorem noOut{n:Nat}{K:Fr→World→Prop}:¬LetsOut (liftQ n (onNormal K)):=λ⟨_,_,_,_,h⟩=>h
theorem noPan{n:Nat}{K:Fr→World→Prop}:∀ch a w,¬liftQ n (onNormal K) (.panic ch) a w:=λ_ _ _ ⟨_,_,h⟩=>h
theorem onN{n:Nat}{K:Fr→World→Prop}:∀a w,liftQ n (onNormal K) .normal a w→a.defers=[]:=λ_ _ ⟨_,h,_⟩=>h.1
theorem liftD_of{n:Nat}{ds:List Deferred}{K:Fr→World→Prop}{Q:Exit→Fr→World→Prop}(hK:∀g w,K g w→Q .normal g w):∀e a w,liftQ n (onNormal K) e a w→LiftD n ds Q e (wD ds a) w:=by
 rintro e a w ⟨g,ha,h⟩
 cases e<;>first|exact⟨a,g,ha,rfl,hK _ _ h⟩|exact h.elim
theorem wpf_in{P:Program}{ro:Option Nat}{m n:Nat}{ds:List Deferred}:∀(c:Code) (Q:Exit→Fr→World→Prop) (g:Fr) (w:World) (a:Act),flatB c=true→dstsOk n c=true→Agr n a g→wpf P n c Q g w→c.wpIn (Fw ro) m P (LiftD n ds Q) (wD ds a) w:=by
 intro c
 induction c with
 |skip=>intro Q g w a _ _ ha h;exact wpIn_skip ⟨a,g,ha,rfl,h⟩
 |region id ops draw=>
  intro Q g w a hf hd ha h
  simp only[flatB,List.all_eq_true] at hf
  simp only[dstsOk,List.all_eq_true] at hd
  cases draw with
  |false=>exact wpIn_region_list (list_in noOut noPan onN (liftD_of λ_ _ h=>h) _ _ _ hf (wpList_of_wpl hd _ g w a _ hd ha h λa' g' w' ha' hk=>⟨g',ha',hk⟩))
  |true=>exact wpIn_region_any h.1 (any_in (λi o ho=>hf o (by obtain⟨hlt,rfl⟩:=Array.getElem?_eq_some_iff.1 ho;simp)) noOut noPan onN (liftD_of λ_ _ h=>h) _ _ _ _ (h.2 a ha))
 |seq x y ihx ihy=>
  intro Q g w a hf hd ha h
  simp only[flatB,Bool.and_eq_true] at hf
  simp only[dstsOk,Bool.and_eq_true] at hd
  refine wpIn_seq (wpIn_mono (ihx _ g w a hf.1 hd.1 ha h) λe a' w' ⟨a0,g',ha',e1,hq⟩=>?_)
  subst e1
  cases e with
  |normal=>exact ihy _ g' w' a0 hf.2 hd.2 ha' hq
  |_=>exact⟨a0,g',ha',rfl,hq⟩
 |cond c x y ihx ihy=>
  intro Q g w a hf hd ha h
  simp only[flatB,Bool.and_eq_true] at hf
  simp only[dstsOk,Bool.and_eq_true] at hd
  obtain⟨b,hb,ht,hff⟩:=h
  exact wpIn_cond_split (by rw[wD_eval,ha.eval];exact hb) (λe=>ihx _ g w a hf.1 hd.1 ha (ht e)) (λe=>ihy _ g w a hf.2 hd.2 ha (hff e))
 |block id c ih=>
  intro Q g w a hf hd ha h
  refine wpIn_block (wpIn_mono (ih _ g w a hf hd ha h) λe a' w' ⟨a0,g',ha',e1,hq⟩=>?_)
  subst e1
  cases e with
  |exit i=>
   simp only[blockX] at hq
   simp only[Exit.inBlock]
   split at hq
   ·rename_i e;rw[if_pos e];exact⟨a0,g',ha',rfl,hq⟩
   ·rename_i e;rw[if_neg e];exact⟨a0,g',ha',rfl,hq⟩
  |_=>exact⟨a0,g',ha',rfl,hq⟩
 |ret=>intro Q g w a _ _ ha h;exact wpIn_ret ⟨a,g,ha,rfl,h⟩
 |_=>intro Q g w a hf;simp[flatB] at hf
section
variable{P:Program}{n:Nat}{K:Fr→World→Prop}
theorem wpdR_rel{l:List Oper}{g0:Fr}{w0:World}(m:Nat)(R:Nat→Value→World→Prop)(hm:P.follows .mixedOrders=true)(hB:relB l.toArray m=true)(hd:l.all (dstOk n)=true)(hst:∀i v w w',R i v w→Ext w w'→R i v w')
 (hob:∀i o,i<m→l[i]? = some o→∀g w,Ext w0 w→(∀e∈o.after,Region.binds .any e=true→∀p d,l[e.on]? = some p→p.dst=some d→R e.on (g d) w)→Agree l.toArray m g0 g→relStep P l.toArray o g w λv w'=>Ext w w'∧R i v w')
 (hend:∀g w,Ext w0 w→(∀i p d,i<m→l[i]? = some p→p.dst=some d→R i (g d) w)→Agree l.toArray m g0 g→wpl P l.toArray (l.drop m) g w K):wpdR P n l.toArray g0 w0 K:=by
 refine⟨hm,λa ha=>?_⟩
 rw[List.all_eq_true] at hd
 have hB':=hB
 simp only[relB,Bool.and_eq_true,decide_eq_true_eq] at hB'
 have hsz:m<l.length:=by simpa using hB'.1.1.1.1
 have hall:∀k,k≤m→cnt (Array.replicate l.toArray.size false) k=k:=by
  intro k
  induction k with
  |zero=>intro _;rfl
  |succ k ih=>intro hk;simp only[cnt,ih (by omega),getD_replicate_false];simp
 have H:=head_run (P:=P) (n:=n) (K:=K) (ops:=l.toArray) (g0:=g0) (w0:=w0) (by simpa using hd) hB R hst (by simpa using hob) (by simpa using hend) m (Array.replicate l.toArray.size false) a g0 { w0 with drawn:=w0.drawn+1 } (hall m (Nat.le_refl _))
  ⟨by simp,λj oj _ hl=>(by rw[getD_replicate_false] at hl;cases hl),λt _ ht=>getD_in (by simpa using ht) (getD_replicate_false _ _)⟩ ha (Ext.drawn w0 _) (λi p d _ hl=>(by rw[getD_replicate_false] at hl;cases hl)) (λd _=>rfl)
 rw[show m+(l.toArray.size - m)=l.toArray.size by simp;omega] at H
 exact H
theorem range_in{α:Type}{fop:Operand}{ps:Array Tmp}{assign body:Code}{Q:Exit→Act→World→Prop}{a:Act}{g:Fr}{w:World}(ha:Agr n a g){gf:Nat}{lb:Array Value}(hg:ev g fop=.func (.func gf) #[] lb)
 (eg:∀args w,(callFunc gf args).run P w=.ok (.enter gf args) w) {encs:α→Array Value} {Kp:World→World→Prop} {S:List α→Prop} {N:Nat} {w0:World} (hseq:SeqStopsK Fence.wide (2 - 1) P gf lb encs Kp S (λ_=>True) N w0)
 (hKt:∀{A B C:World},Kp A B→Kp B C→Kp A C) (hKr:∀W,Kp W W) (hKb:∀(W:World) (l:Nat) (o o':Obj),w.heap.size≤l→W.heap[l]? = some o→o.isCells=false→o.isWalk=false→Kp W (W.putObj l o')) (hb0:Below w0.heap.size w0 w) (hps:∀x,(encs x).size=ps.size)
 (I:List α→World→Prop) (hI:OwnFrom w.heap.size I) (h0:I [] w) (gp gx:α→Fr) (hp:∀x a',Agr n a' g→Agr n { tmps:=(ps.zip (encs x)).foldl (λt (p,v)=>t.setIfInBounds p v) a'.tmps,defers:=[] } (gp x))
 (haf:flatB assign=true) (had:dstsOk n assign=true) (hbf:flatB body=true) (hbd:dstsOk n body=true)
 (hassign:∀x W,Now W→wpf P n assign (λe g' W'=>e=.normal∧g'=gx x∧W'=W) (gp x) W)
 (hbody:∀pre x W,Now W→I pre W→pre.length<N→wpf P n body (λe _ W'=>e=.normal∧KeepsFrom w.heap.size W W'∧Kp W W'∧I (pre++[x]) W') (gx x) W)
 (hdone:∀(D:Nat) (xs:List α) (W:World),w.heap.size≤D→S xs→I xs W→W.heap[D]? = some (.deferred (some []))→Q .normal (wD [{ target:=.collected D,args:=#[] }] a) W) :
 (Code.rangeFunc fop ps assign body).wpIn Fence.wide 2 P Q a w:=by
 refine wpIn_rangeFunc_ownH rfl (by omega) (by rw[ha.eval];exact hg) trivial eg hseq hKt hKb hb0 hps I (λ_ _ _=>False) hI (λ_ _ _ _ _ h _ _=>h) h0 (λx a' _=>Agr n a' (gx x)) (λ_ _ _ _ _ _ h _ _=>h) ?_ ?_ ?_ ?_
 ·intro l pre x W K hi hK
  have h1:=wpf_in (ro:=some l) (m:=2 - 1 - 1) (ds:=[]) assign _ _ W _ haf had (hp x a ha) (hassign x W trivial)
  refine wpIn_mono h1 ?_
  rintro e a' W' ⟨a0,g',ha',rfl,rfl,rfl,rfl⟩
  obtain⟨t,d⟩:=a0
  obtain rfl:d=[]:=ha'.1
  exact hK _ _ (KeepsFrom.refl _ _) (hKr _) hi ha'
 ·intro l pre x a' W _ _ hi hax hlen
  have h1:=wpf_in (ro:=some l) (m:=2 - 1 - 1) (ds:=[]) body _ _ W _ hbf hbd hax (hbody pre x W trivial hi hlen)
  obtain⟨t,d⟩:=a'
  obtain rfl:d=[]:=hax.1
  refine wpIn_mono h1 ?_
  rintro e a' W' ⟨a0,g',ha',rfl,rfl,hq⟩
  exact hq
 ·intro D xs W hD hS hi hd
  have:=hdone D xs W hD hS hi hd
  obtain⟨t,d⟩:=a
  obtain rfl:d=[]:=ha.1
  exact this
 ·intro D c pre W _ _ h _
  exact h.elim
end
def wpxT(P:Program)(n:Nat)(T:Code→Code→Fr→World→Prop):Code→(Exit→Fr→World→Prop)→Fr→World→Prop
 |.seq (.block id c) y,_,g,w=>T (.block id c) y g w
 |.seq (.seq x (.block id c)) y,Q,g,w=>wpx P n x (thenX (T (.block id c) y) Q) g w
 |.seq (.seq x z) y,Q,g,w=>wpx P n (.seq x z) (thenX (wpxT P n T y Q) Q) g w
 |.seq x y,Q,g,w=>wpx P n x (thenX (wpxT P n T y Q) Q) g w
 |c,Q,g,w=>wpx P n c Q g w
theorem Xt :
 (∀(P:Program) (n:Nat) T id c y Q g w,Now w→wpxT P n T (.seq (.block id c) y) Q g w=T (.block id c) y g w) ∧
 (∀(P:Program) (n:Nat) T x id c y Q g w,Now w→wpxT P n T (.seq (.seq x (.block id c)) y) Q g w=wpx P n x (thenX (T (.block id c) y) Q) g w) ∧
 (∀(P:Program) (n:Nat) T id ops d y Q g w,Now w→wpxT P n T (.seq (.region id ops d) y) Q g w=wpx P n (.region id ops d) (thenX (wpxT P n T y Q) Q) g w) ∧
 (∀(P:Program) (n:Nat) T x id ops d y Q g w,Now w→wpxT P n T (.seq (.seq x (.region id ops d)) y) Q g w=wpx P n (.seq x (.region id ops d)) (thenX (wpxT P n T y Q) Q) g w) ∧
 (∀(P:Program) (n:Nat) T x c a b y Q g w,Now w→wpxT P n T (.seq (.seq x (.cond c a b)) y) Q g w=wpx P n (.seq x (.cond c a b)) (thenX (wpxT P n T y Q) Q) g w) ∧
 (∀(P:Program) (n:Nat) T x c a y Q g w,Now w→wpxT P n T (.seq (.seq x (.seq c a)) y) Q g w=wpx P n (.seq x (.seq c a)) (thenX (wpxT P n T y Q) Q) g w) ∧
 (∀(P:Program) (n:Nat) T c x z y Q g w,Now w→wpxT P n T (.seq (.cond c x z) y) Q g w=wpx P n (.cond c x z) (thenX (wpxT P n T y Q) Q) g w):=by
 repeat' apply And.intro
 all_goals (intros;rfl)
theorem wpxT_in{P:Program}{n m:Nat}{T:Code→Code→Fr→World→Prop}{Q:Exit→Fr→World→Prop}{Q':Exit→Act→World→Prop}(hT:∀b y g w a,Agr n a g→T b y g w→b.wpIn Fence.wide m P (Exit.then (y.wpIn Fence.wide m P Q') Q') a w)(hQ:∀e a w,liftQ n Q e a w→Q' e a w) :
 ∀(c:Code) (g:Fr) (w:World) (a:Act),dstsOk n c=true→Agr n a g→wpxT P n T c Q g w→c.wpIn Fence.wide m P Q' a w:=by
 intro c
 induction c with
 |seq x y ihx ihy=>
  intro g w a hd ha h
  simp only[dstsOk,Bool.and_eq_true] at hd
  have step:wpx P n x (thenX (wpxT P n T y Q) Q) g w→(Code.seq x y).wpIn Fence.wide m P Q' a w:=λh=>by
   refine wpIn_seq (wpIn_mono (wpIn_wide.2 (wpx_sound _ _ g w a hd.1 ha h)) λe a' w' ⟨g',ha',hq⟩=>?_)
   cases e with
   |normal=>exact ihy g' w' a' hd.2 ha' hq
   |_=>exact hQ _ _ _ ⟨g',ha',hq⟩
  cases x with
  |block id c=>exact wpIn_seq (hT _ _ _ _ _ ha h)
  |seq x z=>
   cases z with
   |block id c=>
    have hd1:=hd.1
    simp only[dstsOk,Bool.and_eq_true] at hd1
    refine wpIn_seq (wpIn_seq (wpIn_mono (wpIn_wide.2 (wpx_sound _ _ g w a hd1.1 ha h)) λe a' w' ⟨g',ha',hq⟩=>?_))
    cases e with
    |normal=>exact hT _ _ _ _ _ ha' hq
    |_=>exact hQ _ _ _ ⟨g',ha',hq⟩
   |_=>exact step h
  |_=>exact step h
 |_=>intro g w a hd ha h;exact wpIn_mono (wpIn_wide.2 (wpx_sound _ Q g w a hd ha h)) hQ
theorem callsV_ofT{P:Program}{f:FuncId}{fn:Func}{c:Code}{args:Array Value}{w:World}{R:Value→World→Prop}(hf:P.funcs[f]? = some fn)(hb:fn.body=some c)
 (hd:dstsOk fn.ntmps c=true) (hn:decide (args.size≤fn.ntmps)=true)
 (h:wpxT P fn.ntmps (λb y g w=>∀a,Agr fn.ntmps a g→b.wpIn Fence.wide 2 P (Exit.then (y.wpIn Fence.wide 2 P (bodyPostM Fence.wide 2 P fn λe w'=>∃v,e=.returned v∧R v w')) (bodyPostM Fence.wide 2 P fn λe w'=>∃v,e=.returned v∧R v w')) a w) c (bodyY P fn.results R) (initF args.toList) w):CallsV P f args w R:=by
 refine(callsIn_wide (n:=2)).1 (callsIn_of_wp_marks hf hb trivial (wpxT_in (λb y g w a ha h=>h a ha) ?_ c _ w _ hd (agr_init args _ (of_decide_eq_true hn)) h) rfl)
 rintro e a w ⟨g,ha,hq⟩
 have hn:∀w,resY P fn.results g w R→LeavesInM Fence.wide 2 P fn a.tmps (λe w'=>∃v,e=.returned v∧R v w') a.defers .returning w:=λw hq=>by
  obtain⟨v,h1,h2⟩:=resX_of_resY (fn:=fn) hq a.tmps ha.2.2
  rw[ha.1]
  exact⟨v,h1,v,rfl,h2⟩
 cases e with
 |normal=>exact hn _ hq
 |ret=>exact hn _ hq
 |_=>exact hq.elim
theorem marks_post{P:Program}{fn:Func}{D:Nat}{R:Value→World→Prop}{e:Exit}{a:Act}{w:World}
 (h:LiftD fn.ntmps [{ target:=.collected D,args:=#[] }] (λe g W=>e=.ret∧W.heap[D]? = some (.deferred (some []))∧resY P fn.results g (W.putObj D (.deferred none)) R) e a w):bodyPostM Fence.wide 2 P fn (λe w'=>∃v,e=.returned v∧R v w') e a w:=by
 obtain⟨a0,g,ha,rfl,rfl,hK,hr⟩:=h
 obtain⟨v,h1,h2⟩:=resX_of_resY (fn:=fn) hr a0.tmps ha.2.2
 refine⟨by simp,.inl ⟨_,_,rfl,run_takeDeferred hK,?_⟩⟩
 exact⟨v,h1,v,rfl,h2⟩
open Go Go.RowKit Go.Shelf
set_option maxHeartbeats 2000000
attribute [local go_sem] Oper.semAt_some
def KpS(Bs b:Nat)(W W':World):Prop:=W.heap.size≤W'.heap.size∧W'.heap[Bs]? = W.heap[Bs]?∧W'.heap[b]? = W.heap[b]?
theorem KpS.refl(Bs b:Nat)(W:World):KpS Bs b W W:=⟨Nat.le_refl _,rfl,rfl⟩
theorem KpS.trans{Bs b:Nat}{x y z:World}(h:KpS Bs b x y)(k:KpS Bs b y z):KpS Bs b x z:=⟨Nat.le_trans h.1 k.1,k.2.1.trans h.2.1,k.2.2.trans h.2.2⟩
def encQ(L:List Nat)(q:Fin L.length):Array Value:=#[.int .i64 (q.1:Nat),.int .i64 (L[q.1]:Nat)]
def PreB(L:List Nat)(k:Nat)(pre:List (Fin L.length)):Prop:=pre.map (λq=>q.1)=((List.range L.length).reverse.take k)
theorem back1_in(l Bs b cap:Nat){sv:Value}{L:List Nat}(hlen:L.length≤4096)(hsv:sv=.slice (some ⟨b,0,none⟩) L.length cap∨sv=.slice none 0 0∧L=[])(J Jx:List (Fin L.length)→World→Prop)
 (hY:∀pre x W,J pre W→pre.length<4096→YieldAt Fence.wide (1 - 1) Tryz.prog l (encQ L x) W λe W'=>(e=.returned (.bool true)∧J (pre++[x]) W'∧KpS Bs b W W')∨(e=.returned (.bool false)∧Jx (pre++[x]) W'))
 (W:World) (hB:Blk W Bs 43 [sv]) (hr:∀k (h:k<L.length),W.cell? ⟨b,k,none⟩=some (.int .i64 (L[k]:Nat))) (h0:J [] W) :
 CallsIn Fence.wide 1 Tryz.prog 63 #[.func (.yield l) #[] #[],.pointer (some ⟨Bs,0,none⟩)] W λe W'=>(∃v,e=.returned v) ∧
  ((∃ys,PreB L L.length ys∧J ys W')∨(∃pre:List (Fin L.length),True∧Jx pre W')):=by
 have hc0:=hB.cell 0
 simp only[List.getElem?_cons_zero] at hc0
 have hw0:wrap64 ((L.length:Int) - 1)=(L.length:Int) - 1:=by unfold wrap64;omega
 rcases hsv with rfl|⟨rfl,rfl⟩
 ·refine callsIn_of_wp Tryz.func63 rfl trivial ?_ rfl
  simp only[Tryz.ntmps63,List.size_toArray,List.length_cons,List.length_nil,Nat.reduceAdd,Nat.reduceSub,Array.replicate_succ,Array.replicate_zero,List.push_toArray,List.append_toArray,List.nil_append,List.cons_append]
  gi_wp2
  gi_loopw [3] (λi wr=>∃j:Nat,j≤L.length∧i=.int .i64 ((j:Int) - 1)∧(∃pre,PreB L (L.length - j) pre∧J pre wr)∧KpS Bs b W wr)
   (λi _=>(intOf i+1).toNat)
  case atStart=>exact⟨L.length,Nat.le_refl _,rfl,⟨[],by rw[PreB,Nat.sub_self,List.take_zero];rfl,h0⟩,KpS.refl _ _ _⟩
  case round=>
   obtain⟨j,hj,rfl,⟨pre,hpre,hJs⟩,hkp⟩:=hrel
   have hBr:Blk wr Bs 43 [.slice (some ⟨b,0,none⟩) L.length cap]:=hkp.2.1.trans hB
   have hc0:=hBr.cell 0
   simp only[List.getElem?_cons_zero] at hc0
   cases j with
   |zero=>
    gi_wp2
    go_end0
    exact⟨⟨_,rfl⟩,.inl ⟨_,hpre,hJs⟩⟩
   |succ j=>
    have hcj:=hr j (by omega)
    rw[←World.cell?_of_block (a:=⟨b,j,none⟩) hkp.2.2] at hcj
    have hjI:((j+1:Nat):Int) - 1=(j:Int):=by omega
    have hw1:wrap64 ((j:Int) - 1)=(j:Int) - 1:=by unfold wrap64;omega
    obtain⟨fn,tmps,assign,body,hy,hR⟩:=hY _ ⟨j,by omega⟩ wr hJs (by have:=congrArg List.length hpre;rw[List.length_map,List.length_take,List.length_reverse,List.length_range] at this;omega)
    simp only[encQ] at hy
    rw[hjI]
    gi_wp2
    refine hR.mono ?_
    rintro e W3 (⟨rfl,hJ3,hk3⟩|⟨rfl,hJx3⟩)
    ·gi_wp2
     go_roundw
     case rel=>
      refine⟨j,by omega,rfl,⟨_,?_,hJ3⟩,hkp.trans hk3⟩
      have e1:L.length - j=(L.length - (j+1))+1:=by omega
      have e2:L.length - 1 - (L.length - (j+1))=j:=by omega
      unfold PreB at hpre ⊢
      rw[List.map_append,hpre,e1,List.take_add_one,List.getElem?_reverse (by rw[List.length_range];omega),List.length_range,e2,List.getElem?_range (by omega)]
      rfl
     case measure=>simp[intOf]
    ·gi_wp2
     refine bodyPost_ret (results_none rfl _ _ _) rfl ?_
     exact⟨⟨_,rfl⟩,.inr ⟨_,trivial,hJx3⟩⟩
 ·refine callsIn_of_wp Tryz.func63 rfl trivial ?_ rfl
  simp only[Tryz.ntmps63,List.size_toArray,List.length_cons,List.length_nil,Nat.reduceAdd,Nat.reduceSub,Array.replicate_succ,Array.replicate_zero,List.push_toArray,List.append_toArray,List.nil_append,List.cons_append]
  gi_wp2
  gi_loopw [3] (λi wr=>i=.int .i64 (-1)∧J [] wr) (λi _=>0)
  case atStart=>exact⟨rfl,h0⟩
  case round=>
   obtain⟨rfl,hJs⟩:=hrel
   gi_wp2
   go_end0
   exact⟨⟨_,rfl⟩,.inl ⟨[],rfl,hJs⟩⟩
theorem back_stops(Bs b cap:Nat){sv:Value}{L:List Nat}{w:World}(hlen:L.length≤4096)(hsv:sv=.slice (some ⟨b,0,none⟩) L.length cap∨sv=.slice none 0 0∧L=[])(hbw:L≠[]→b<w.heap.size)(hB:Blk w Bs 43 [sv])
 (hr:∀k (h:k<L.length),w.cell? ⟨b,k,none⟩=some (.int .i64 (L[k]:Nat))):SeqStopsK Fence.wide (2 - 1) Tryz.prog 63 #[.pointer (some ⟨Bs,0,none⟩)] (encQ L) (KpS Bs b) (PreB L L.length) (λ_=>True) 4096 w:=λl J Jx W hW hJ hJx hY h0=>
 back1_in l Bs b cap hlen hsv J Jx hY W ((hW.block Bs hB.lt).trans hB) (λk h=>(World.cell?_of_block (a:=⟨b,k,none⟩) (hW.block b (hbw (by intro e;subst e;simp at h)))).trans (hr k h)) h0
end Go.Proofs.YtphciegaokdolaaGreatDoor
