/- The library's Sort and Compact on a row of ints of the call's own. -/
import Derived.Test.YtphciegaokdolaaGreatDoorShelf
import Derived.Lib.RowBridge
import Derived.Test.YtphciegaokdolaaGreatDoorAuto
import Derived.Sort.OwnSortedInts
import Derived.Test.YtphciegaokdolaaGreatDoorWL24
import Derived.Test.YtphciegaokdolaaGreatDoorRound
import Derived.Test.YtphciegaokdolaaGreatDoorRelT
import Derived.Test.YtphciegaokdolaaGreatDoorStep2
namespace Go.Proofs.YtphciegaokdolaaGreatDoor
set_option linter.unusedSimpArgs false
set_option linter.unusedVariables false
open Go Go.RowKit Go.Sort
set_option maxRecDepth 100000
set_option maxHeartbeats 1000000
theorem sxSort201{p q:Prop}(hq:q)(h:p=q:=by first|(simp(maxDischargeDepth:=3) only[↓X,↓Y,↓Q,S1,↓reduceIte,Nat.reduceEqDiff,Nat.reduceAdd,Int.reduceLT,Int.reduceLE,Int.reduceNeg,Int.reduceBEq,Int.reduceBNe,Int.reduceEq,Nat.reduceLeDiff,Nat.reduceMul,Nat.reduceLT, *,↓Xt];try exact rfl)|(simp(singlePass:=true) (maxDischargeDepth:=99) only[*,S2,Nat.reduceLT,↓Xt];try exact rfl)):p:=h▸hq
theorem sxSort202{p q:Prop}(hq:q)(h:p=q:=by first|(simp(maxDischargeDepth:=3) only[↓X,↓Y,↓Q,S1,↓reduceIte,Nat.reduceEqDiff,Nat.reduceAdd,Int.reduceLT,Int.reduceLE,Int.reduceNeg,Int.reduceBEq,Int.reduceBNe,Int.reduceEq,Nat.reduceLeDiff,Nat.reduceMul,Nat.reduceLT, *,↓Xf];try exact rfl)|(simp(singlePass:=true) (maxDischargeDepth:=99) only[*,S2,Nat.reduceLT,↓Xf];try exact rfl)):p:=h▸hq
theorem sxSort203{p q:Prop}(hq:q)(h:p=q:=by first|(simp(maxDischargeDepth:=3) only[↓X,↓Y,↓Q,S1,↓reduceIte,Nat.reduceEqDiff,Nat.reduceAdd,Int.reduceLT,Int.reduceLE,Int.reduceNeg,Int.reduceBEq,Int.reduceBNe,Int.reduceEq,Nat.reduceLeDiff,Nat.reduceMul,Nat.reduceLT, *,siteC,stepV,stepC];try exact rfl)|(simp(singlePass:=true) (maxDischargeDepth:=99) only[*,S2,Nat.reduceLT,siteC,stepV,stepC];try exact rfl)):p:=h▸hq
abbrev sortI(l:List Int):List Int:=l.mergeSort λx y=>decide (x≤y)
section
variable{w:World}{B:Nat}{v:Value}{l:List Int}
theorem flat_intC(l:List Int):(l.map intC).flatten=l.map (Value.int .i64):=by
 induction l with
 |nil=>rfl
 |cons a r ih=>simp only[List.map_cons,List.flatten_cons,ih];rfl
theorem own_intC{w:World}{v:Value}{l:List Int}(h:w.ownsRow B 3 1 v l.length (l.map (Value.int .i64)))(hs:l.length≤140737488355328):Own w B 3 1 v (l.map intC):=
 ⟨by rw[flat_intC,List.length_map];exact h,λc hc=>by obtain⟨x,_,rfl⟩:=List.mem_map.1 hc;rfl,by rw[List.length_map];exact hs⟩
end
set_option linter.unusedSectionVars false
section
variable{w w':World}{B B' e e' sz sz':Nat}{s v:Value}{cs cs':List (List Value)}
theorem Own.obj24(h:Own w B e sz s cs){c:Nat}(hc:s.ownBlock=some c):∃cur,w.heap[c]? = some (.cells cur e):=by
 rcases h.1.2 with ⟨rfl,_⟩|⟨g,cap,cur,rfl,_,hgc,_⟩
 ·simp[Value.ownBlock] at hc
 ·obtain rfl:g=c:=Option.some.inj hc
  exact⟨cur,hgc⟩
theorem own_grown(h:Own w B e sz s cs)(hg:w.grownBy w' s.ownBlock)(hne:e'≠e)(hx:Own w B' e' sz' v cs'):Own w' B' e' sz' v cs':=
 hx.keep λc hc=>hg.block c (hx.lt c hc).2 λe1=>by
  obtain⟨c1,h1⟩:=h.obj24 e1.symm
  obtain⟨c2,h2⟩:=hx.obj24 hc
  rw[h1] at h2
  cases h2
  exact hne rfl
theorem blk_grown{c T:Nat}{z:List Value}(h:Own w B e sz s cs)(hg:w.grownBy w' s.ownBlock)(hb:Blk w c T z)(hne:c<B):Blk w' c T z:=
 (hg.block c hb.lt λe1=>by have:=(h.lt c e1.symm).1;omega).trans hb
theorem keeps_ext(h:Ext w w'):KeepsFrom B w w':=⟨h.size,λk o _ hk _=>(h.block k (Array.getElem?_eq_some_iff.1 hk).1).trans hk⟩
theorem keeps_grown(h:Own w B' e sz s cs)(hg:w.grownBy w' s.ownBlock):KeepsFrom B w w':=⟨hg.size,λk o _ hk ho=>(hg.block k (Array.getElem?_eq_some_iff.1 hk).1 λe1=>by
 obtain⟨c1,h1⟩:=h.obj24 e1.symm
 rw[h1] at hk
 cases hk
 cases ho).trans hk⟩
theorem keeps_chg{b:Nat}(h:Chg w w' b)(hb:b<B):KeepsFrom B w w':=⟨h.size,λk o hk1 hk _=>(h.block k (Array.getElem?_eq_some_iff.1 hk).1 (by omega)).trans hk⟩
def Lo(B:Nat)(X:Nat→Prop)(w w':World):Prop:=w'.os=w.os∧w'.tape=w.tape∧w'.output=w.output∧w.heap.size≤w'.heap.size∧∀c,c<B→¬X c→w'.heap[c]? = w.heap[c]?
variable{X:Nat→Prop}{w'':World}
theorem Lo.trans(h:Lo B X w w')(k:Lo B X w' w''):Lo B X w w'':=⟨k.1.trans h.1,k.2.1.trans h.2.1,k.2.2.1.trans h.2.2.1,Nat.le_trans h.2.2.2.1 k.2.2.2.1,λc hc hx=>(k.2.2.2.2 c hc hx).trans (h.2.2.2.2 c hc hx)⟩
theorem lo_ext(h:Ext w w')(hB:B≤w.heap.size):Lo B X w w':=⟨h.os,h.tape,h.output,h.size,λc hc _=>h.block c (Nat.lt_of_lt_of_le hc hB)⟩
theorem lo_grown(h:Own w B e sz s cs)(hg:w.grownBy w' s.ownBlock)(hB:B≤w.heap.size):Lo B X w w':=⟨hg.os,hg.tape,hg.output,hg.size,λc hc _=>hg.block c (Nat.lt_of_lt_of_le hc hB) λe1=>by have:=(h.lt c e1.symm).1;omega⟩
theorem lo_chg{b:Nat}(h:Chg w w' b)(hb:X b)(hB:B≤w.heap.size):Lo B X w w':=⟨h.os,h.tape,h.output,h.size,λc hc hx=>h.block c (Nat.lt_of_lt_of_le hc hB) λe1=>hx (e1▸hb)⟩
theorem appendAll_kg{by_ t ty:Nat}{z:Value}{α:Type}{c:α→List Value}{l r:List α}{k:Value→World→Prop}(hsl:slOf Tryz.prog t=some (e,sz,by_))(hz:zeroElt Tryz.prog t=some z)(hzs:(cellsL z).length=sz)(hsz:0<sz)(hby:by_≤64)
 (hown:Own w B e sz s (l.map c)) (hv:Sl w B' (some sz) sz v (r.map λx=>.agg (c x).toArray)) (hl:∀x,(c x).length=sz) (h1:∀x,∀v∈c x,v.oneCell'=true) (hbound:l.length+r.length<1000000000000) (hB:B≤w.heap.size)
 (h:∀v' w',Now w'→w.grownBy w' s.ownBlock→Own w' B e sz v' ((l++r).map c)→k v' w'):appX Tryz.prog t t ty s v w k:=by
 obtain⟨i,hu,hi,hs,hby'⟩:=slOf_parts hsl
 have hz':i.zero=some z:=by
  unfold zeroElt at hz
  rw[hsl] at hz
  simpa [zeroOf,hi] using hz
 have hcells:z.cells.size=sz:=by rw[←hzs,←cellsL_eq];simp
 have hall:∀x∈r.map c,x.length=sz:=by
  intro x hx
  obtain⟨y,_,rfl⟩:=List.mem_map.1 hx
  exact hl y
 have hlen:lenN v=r.length:=by simpa using hv.len
 have hb:(l.length+r.length) * by_≤1000000000000 * 64:=Nat.mul_le_mul (by omega) hby
 have hwf:=hv.wf
 match v,hv,hlen,hwf with
 |.slice (some a) m cc,hv,hlen,_=>
  obtain rfl:m=r.length:=hlen
  obtain⟨v',w',hr,h2,h3,_,h5⟩:=run_append_own_at (P:=Tryz.prog) w B t ty e i z sz by_ hu hi hz' hs hby' hcells hsz s (l.map c).length (l.map c).flatten hown.1 a r.length cc (r.map c).flatten (by rw[flat_len _ hall,List.length_map])
   (sl_cells hv hl hsz) (λu hu=>by obtain⟨x,hx,hux⟩:=List.mem_flatten.1 hu;obtain⟨y,_,rfl⟩:=List.mem_map.1 hx;exact h1 y u hux) (by simp only[maxLen,List.length_map];omega) (by rw[List.length_map];omega) hB
  refine runsV_ok hr (h v' w' trivial h3 ⟨by simpa using h2,λx hx=>?_,by simp only[List.length_map,List.length_append];omega⟩)
  obtain⟨y,_,rfl⟩:=List.mem_map.1 hx
  exact hl y
 |.slice none m cc,hv,hlen,hwf=>
  obtain rfl:m=0:=hwf
  have hr0:r=[]:=List.eq_nil_of_length_eq_zero hlen.symm
  subst hr0
  have hr:(Builtin.append_ #[t,t] ty #[s,.slice none 0 cc]).run Tryz.prog w=.ok s w:=by
   rcases hown.1.2 with ⟨rfl,_⟩|⟨g,cap,cur,rfl,_,_,hnc,_⟩
   ·simp[Builtin.append_,run_underlying hu,sizeOf,typeInfo,hi,Builtin.lenOf,Builtin.firstCells]
   ·rw[List.length_map] at hnc
    simp[Builtin.append_,run_underlying hu,sizeOf,typeInfo,hi,Builtin.lenOf,Builtin.firstCells,hnc,storeCells]
  exact runsV_ok hr (h s w trivial ⟨rfl,rfl,rfl,Nat.le_refl _,λ_ _ _=>rfl⟩ (by simpa using hown))
theorem sortIntsG{l:List Int}(hB:B≤w.heap.size)(hown:Own w B 3 1 v (l.map intC)):CallsV Tryz.prog 36 #[v] w λr w'=>w.grownBy w' v.ownBlock∧r=.tuple #[]∧Own w' B 3 1 v ((sortI l).map intC):=by
 have hsm:l.length≤140737488355328:=by simpa using hown.small
 have hln:(sortI l).length=l.length:=List.length_mergeSort _
 rcases hown.1.2 with ⟨rfl,hn0⟩|⟨g,cap,cur,rfl,hb,hg,hc1,hc2,hsz,htk⟩
 ·have:l=[]:=by simpa using hn0
  subst this
  refine Calls.mono (Tryz.slices_Sort_int_none none 0 w) ?_
  rintro e w' ⟨rfl,rfl⟩
  exact⟨_,rfl,⟨rfl,rfl,rfl,Nat.le_refl _,λ_ _ _=>rfl⟩,rfl,by simpa [sortI] using hown⟩
 ·rw[List.length_map] at hc1 htk ⊢
  rw[flat_intC] at htk
  have hgl:g<w.heap.size:=(Array.getElem?_eq_some_iff.1 hg).1
  refine Calls.mono (Tryz.slices_Sort_int g 0 cap l w (holds_of_blockI hg (by simpa using htk)) hgl (by omega)) ?_
  rintro e w' ⟨rfl,n,os,rfl⟩
  have hgr:w.grownBy _ (some g):=grownBy_sortedI (w:=w) (n:=n) (os:=os) (sortI l).toArray
  refine⟨_,rfl,hgr,rfl,own_intC ?_ (by omega)⟩
  rw[hln]
  exact ownsRow_sortedI (ss:=l) (ts:=sortI l) hln hb hg hc1 hc2 hsz
end
open Go Go.RowKit
set_option maxHeartbeats 1600000
theorem WorldR.ext24{w w':World}{B:Nat}{h r:Value}{x:WorldD}(k:WorldR w B h r x)(hB:B≤w.heap.size)(hx:Ext w w'):WorldR w' B h r x:=(k.sk hB).2.2.2.2 w' ((Bl.refl hB).ext hx)
section
variable{w:World}{B B':Nat}{hv rv lv:Value}{y:WorldD}{ws:List WorldD}
theorem undoBack1{i b7 b17:Nat}(hB:B≤w.heap.size)(h7:Blk w b7 36 [hv,rv])(h17:Blk w b17 50 [lv])(hx0:WorldR w B hv rv y)(hlv:OwnWL w B' lv ws)(hi:i≤ws.length) :
 CallsV Tryz.prog 33 #[.int .i64 (i:Nat),.pointer (some ⟨b7,0,none⟩),.pointer (some ⟨b17,0,none⟩)] w λv w'=>Ext w w'∧∃a b,v=.agg #[a,b]∧WorldR w' w.heap.size a b ((y::ws).getD i noW):=by
 have⟨hn,hx⟩:=bg0 w
 have k7:=h7.bk
 have k17:=h17.bk
 have hh1:=hx0.h.one
 have hr1:=hx0.r.one
 have lvone:=hlv.one
 have hX:WorldR w w.heap.size hv rv y:=⟨hx0.h.more hB,hx0.r.more hB⟩
 have hXx:=λw' (h:Ext w w')=>hX.ext24 (Nat.le_refl _) h
 replace hXx:Hid _:=hXx
 have bw:Bl w.heap.size w w:=Bl.refl (Nat.le_refl _)
 cases i with
 |zero=>
  clear hlv hX
  (refine callsV_of Tryz.func33 rfl KR KR ?_;rw[Tryz.results33])
  (repeat' first|(with_reducible first|exact⟨⟩|(refine gB ?_;intros)|refine gT ?_ ?_)|refine gs ?_|refine sx ?_)
  exact⟨_,_,rfl,hXx.out _ FR⟩
 |succ j=>
  obtain⟨us,hu1,hu2,hu3⟩:=hlv
  have K:=(hu2.slN (f:=wC)).k (Nat.le_refl _)
  have hjl:j<us.length:=by omega
  obtain⟨o1,o2⟩:=hu3 j hjl
  have H1:=o1.one
  have R1:=o2.one
  have hW:WorldR w w.heap.size us[j].1 us[j].2 (ws.getD j noW):=⟨o1.slN (f:=stateC),o2.slN (f:=replC)⟩
  have hWx:=λw' (h:Ext w w')=>hW.ext24 (Nat.le_refl _) h
  replace hWx:Hid _:=hWx
  have hw1:IntKind.i64.wrap (((j+1:Nat):Int) - 1)=(j:Int):=by
   have:=hu2.small
   rw[List.length_map] at this
   rw[wrap_i64_id]<;>omega
  have hne0:(((j+1:Nat):Int) == 0)=false:=by rw[beq_eq_false_iff_ne];omega
  have hjI:((j:Nat):Int)<((us.length:Nat):Int):=by omega
  clear hu1 hu2 hu3 o1 o2 hW hX
  (refine callsV_of Tryz.func33 rfl KR KR ?_;rw[Tryz.results33])
  (repeat' first|(with_reducible first|exact⟨⟩|(refine gB ?_;intros)|refine gT ?_ ?_)|refine gs ?_|simp(maxDischargeDepth:=3) only[↓X,↓Y,↓Q,S1,↓reduceIte,Nat.reduceEqDiff,Nat.reduceAdd,Int.reduceLT,Int.reduceLE,Int.reduceNeg,Int.reduceBEq,Int.reduceBNe,Int.reduceEq,Nat.reduceLeDiff,Nat.reduceMul,Nat.reduceLT, *,wC]|simp(singlePass:=true) (maxDischargeDepth:=99) only[*,S2,Nat.reduceLT,wC])
  exact⟨_,_,rfl,hWx.out _ FR⟩
theorem slicesBackward{ov:Value}(ho:ov.oneCell'=true):CallsV Tryz.prog 34 #[ov] w λv w'=>Ext w w'∧∃b,v=.func (.func 63) #[] #[.pointer (some ⟨b,0,none⟩)]∧Blk w' b 43 [ov]∧w.heap.size≤b:=by
 have⟨hn,hx⟩:=bg0 w
 have hc:=cellsL_one ho
 (refine callsV_of Tryz.func34 rfl KR KR ?_;rw[Tryz.results34])
 (repeat' first|(with_reducible first|exact⟨⟩|(refine gB ?_;intros)|refine gT ?_ ?_)|refine gs ?_|refine sx ?_)
 rename_i b1 w1 n1 k1 s1 q1
 exact⟨_,rfl,k1.2.1 _ FR,FR⟩
end
def backL(e:Int)(s:SiteD)(wl:List ServiceD)(p:PlanD)(y:WorldD)(x:Int):List StepD:=if wldE e s wl p y x=0 then backS s wl p.steps (y::(runL s wl p.steps (seqF p x.toNat 4096 0) y).1) (xsL (seqF p x.toNat 4096 0)) else[]
def lastL(e:Int)(s:SiteD)(wl:List ServiceD)(p:PlanD)(y:WorldD)(x:Int):List Int:=if wldE e s wl p y x=0 then sortI (intL (lastS s wl p.steps (y::(runL s wl p.steps (seqF p x.toNat 4096 0) y).1) (xsL (seqF p x.toNat 4096 0)))) else[]
def prs(L:List Nat)(pre:List (Fin L.length)):List (Nat×Nat):=pre.map λq=>(q.1,L.getD q.1 0)
theorem prs_snoc(L:List Nat)(pre:List (Fin L.length))(q:Fin L.length):prs L (pre++[q])=prs L pre++[(q.1,L.getD q.1 0)]:=by simp[prs]
theorem prs_all{L:List Nat}{pre:List (Fin L.length)}(h:PreB L L.length pre):prs L pre=xsL L:=by
 unfold PreB at h
 rw[List.take_of_length_le (by simp)] at h
 unfold prs xsL
 rw[←h,List.map_map]
 rfl
def BackI(wE:World)(b20 b21:Nat)(s:SiteD)(wl:List ServiceD)(steps:List StepD)(bs:List WorldD)(L:List Nat)(pre:List (Fin L.length))(W:World):Prop:=
 ∃sl il,Blk W b20 37 [sl]∧Blk W b21 43 [il]∧Own W wE.heap.size 79 4 sl ((backS s wl steps bs (prs L pre)).map stepC)∧Own W wE.heap.size 3 1 il ((intL (lastS s wl steps bs (prs L pre))).map intC)∧TBn (λb=>b∈[b20,b21]) wE W
theorem backI_own{wE:World}{b20 b21:Nat}{s:SiteD}{wl:List ServiceD}{steps:List StepD}{bs:List WorldD}{L:List Nat}(h20:b20<wE.heap.size)(h21:b21<wE.heap.size):OwnFrom wE.heap.size (BackI wE b20 b21 s wl steps bs L):=by
 rintro pre W W' row ⟨sl,il,k1,k2,o1,o2,ht⟩ hg hr
 have ko:∀{e sz:Nat} {v:Value} {cs:List (List Value)},Own W wE.heap.size e sz v cs→Own W' wE.heap.size e sz v cs:=λ{e sz v cs} h=>h.keep λc hc=>hg.block c (h.lt c hc).2 λe1=>by
  obtain⟨_,o,h1,h2⟩:=hr c e1.symm
  obtain⟨cur,h3⟩:=h.obj24 hc
  rw[h1] at h3
  cases h3
  cases h2
 have kb:∀c,c<wE.heap.size→W'.heap[c]? = W.heap[c]?:=λc hc=>hg.block c (Nat.lt_of_lt_of_le hc ht.size) λe1=>by
  have:=(hr c e1.symm).1
  omega
 exact⟨sl,il,(kb _ h20).trans k1,(kb _ h21).trans k2,ko o1,ko o2,⟨hg.os.trans ht.os,hg.tape.trans ht.tape,hg.output.trans ht.output,Nat.le_trans ht.size hg.size,λc hc hx=>(kb c hc).trans (ht.block c hc hx)⟩⟩
theorem backS_len{s:SiteD}{wl:List ServiceD}{steps:List StepD}{bs:List WorldD}:∀(xs:List (Nat×Nat)),(backS s wl steps bs xs).length≤3 * xs.length
 |[]=>Nat.le_refl _
 |a::r=>by
  have h1:(backAt s wl steps bs a).length≤3:=by
   unfold backAt undoL
   split
   ·unfold undoS
    rw[List.length_map]
    exact undoK_len _ _
   ·exact Nat.zero_le _
  have h2:=backS_len (s:=s) (wl:=wl) (steps:=steps) (bs:=bs) r
  show(backAt s wl steps bs a++backS s wl steps bs r).length≤_
  rw[List.length_append,List.length_cons]
  omega
theorem lastS_len{s:SiteD}{wl:List ServiceD}{steps:List StepD}{bs:List WorldD}(xs:List (Nat×Nat)):(lastS s wl steps bs xs).length≤xs.length:=by
 unfold lastS
 rw[List.length_map]
 exact List.length_filter_le ..
theorem WorldR.grow24{w w':World}{h r:Value}{x:WorldD}(k:WorldR w w.heap.size h r x)(hx:Ext w w'):WorldR w' w'.heap.size h r x:=⟨(k.ext24 (Nat.le_refl _) hx).h.more hx.size,(k.ext24 (Nat.le_refl _) hx).r.more hx.size⟩
theorem lo_fin{wE W W':World}{b20 b21 Bs b:Nat}(hk:Lo wE.heap.size (λc=>c∈[b20,b21]) W W')(hT:TBn (λc=>c∈[b20,b21]) wE W)(h1:Bs<wE.heap.size)(h2:b<wE.heap.size)(h3:¬Bs=b20)(h4:¬Bs=b21)(h5:¬b=b20)(h6:¬b=b21):TBn (λc=>c∈[b20,b21]) wE W'∧KpS Bs b W W':=
 ⟨⟨hk.1.trans hT.os,hk.2.1.trans hT.tape,hk.2.2.1.trans hT.output,Nat.le_trans hT.size hk.2.2.2.1,λc hc hx=>(hk.2.2.2.2 c hc hx).trans (hT.block c hc hx)⟩,hk.2.2.2.1,hk.2.2.2.2 _ h1 (by simp[h3,h4]),hk.2.2.2.2 _ h2 (by simp[h5,h6])⟩
theorem own_put{w:World}{B e sz D:Nat}{v:Value}{cs:List (List Value)}{d:Option (List Deferred)}{o':Obj}(h:Own w B e sz v cs)(hD:w.heap[D]? = some (.deferred d)):Own (w.putObj D o') B e sz v cs:=
 h.keep λc hc=>World.putObj_heap_other λe1=>by
  obtain⟨cur,h1⟩:=h.obj24 hc
  first
   |(rw[←e1,hD] at h1;cases h1)
   |(rw[e1,hD] at h1;cases h1)
theorem wldE_zero{e x:Int}{s:SiteD}{wl:List ServiceD}{p:PlanD}{y:WorldD}(h:wldE e s wl p y x=0):askedE e p x=0∧validB s wl y=true∧(runL s wl p.steps (seqF p x.toNat 4096 0) y).2=-1:=by
 unfold wldE at h
 split at h
 ·split at h
  ·split at h
   ·exact⟨by assumption,by assumption,by assumption⟩
   ·cases h
  ·cases h
 ·exact absurd h (by assumption)
section
variable{w:World}{B:Nat}{u:SiteVs}{sd:SiteD}{wv sv av hv rv:Value}{vs:List Value}{l:List SrvV}{p:PlanD}{y:WorldD}
theorem undoBack{x e:Int}(hT:TabW w)(hB:B≤w.heap.size)(hs:SiteR w B u sd)(hl:WishR w B wv l)(hpl:PlanR w B sv av vs p)(hx0:WorldR w B hv rv y)(he:planErr sd (l.map (·.x)) p=e) :
 CallsV Tryz.prog 10 #[.agg (siteC u sd).toArray,.agg #[wv],.agg #[hv,rv],.agg #[sv,av],intV x] w λr w'=>Ext w w'∧∃bv lv,r=.tuple #[bv,lv,intV (wldE e sd (l.map (·.x)) p y x)]∧Own w' w.heap.size 79 4 bv ((backL e sd (l.map (·.x)) p y x).map stepC)∧Own w' w.heap.size 3 1 lv ((lastL e sd (l.map (·.x)) p y x).map intC):=by
 have⟨hn,hx⟩:=bg0 w
 have hs':=hs.sk hB
 have hl':=hl.sk hB
 have hp':=hpl.sk hB
 have hx':=hx0.sk hB
 have hS:=hs'.2.2.2.2.2.2
 have hW:=hl'.2.2
 have hP:=hp'.2.2.2.2.2.2
 have hX:=hx'.2.2.2.2
 have hbw:Bl B w w:=Bl.refl hB
 have hsv1:=hpl.s.one
 have hav1:=hp'.2.2.2.2.1
 have hh1:=hx0.h.one
 have hr1:=hx0.r.one
 have hT':=λw' (h:Ext w w')=>hT.ext h
 replace hT':Hid _:=hT'
 have hsf:=λh0=>seq_facts (x:=x) he h0
 replace hsf:Hid _:=hsf
 have he':Hid (planErr sd (l.map (·.x)) p=e):=he
 unfold backL lastL
 clear he hpl hx0 hp' hx' hs' hl'
 (refine callsV_ofT Tryz.func10 rfl KR KR ?_;rw[Tryz.results10])
 (repeat' first|(with_reducible first|exact⟨⟩|(refine gB ?_;intros)|refine gT ?_ ?_)|refine gs ?_|simp(maxDischargeDepth:=3) only[↓X,↓Y,↓Q,S1,↓reduceIte,Nat.reduceEqDiff,Nat.reduceAdd,Int.reduceLT,Int.reduceLE,Int.reduceNeg,Int.reduceBEq,Int.reduceBNe,Int.reduceEq,Nat.reduceLeDiff,Nat.reduceMul,Nat.reduceLT, *,↓Xt,siteC]|simp(singlePass:=true) (maxDischargeDepth:=99) only[*,S2,Nat.reduceLT,↓Xt,siteC])
 rename_i b5 w5 n5 k5 s5 q5 b6 w6 n6 k6 s6 q6 b7 w7 n7 k7 s7 q7 b8 w8 n8 k8 s8 q8
 refine call_k (prefixWorld (x:=x) (B:=B) (hT'.out _ FR) FR (hS _ FR) (hW _ FR) (hP _ FR) (hX _ FR) he'.out) ?_
 rintro _ w1 n1 s1 ⟨v0,rfl,h0a,r0a,rfl,oh0,or0⟩
 have oh01:=oh0.one
 have or01:=or0.one
 clear oh0 or0
 by_cases h0:wldE e sd (l.map (·.x)) p y x=0
 rotate_left
 ·simp only[if_neg h0]
  clear hsf
  generalize wldE e sd (l.map (·.x)) p y x=E at *
  have hE1:(E == 0)=false:=by simpa using h0
  have hE2:(E != 0)=true:=by simpa using h0
  (repeat' first|(with_reducible first|exact⟨⟩|(refine gB ?_;intros)|refine gT ?_ ?_)|refine gs ?_|refine sxSort201 ?_)
  exact⟨_,_,rfl,Own.nil _ _ _ _,Own.nil _ _ _ _⟩
 obtain⟨ha,hv0,hrun⟩:=wldE_zero h0
 obtain⟨rfl,hsh,hchk,hlen,hLlt,hnd⟩:=hsf.out ha
 have hsq:=λw' (h1:Ext w w') (h2:Bl B w w') (h3:B≤w'.heap.size)=>planSequence (w:=w') (B:=B) (x:=x) (hT'.out w' h1) h3 (hS w' h2) (hW w' h2) (hP w' h2) he'.out
 simp only[ha,if_true] at hsq
 simp only[h0,if_true]
 generalize seqF p x.toNat 4096 0=L at *
 replace hsq:Hid _:=hsq
 clear hsf h0 ha
 (repeat' first|(with_reducible first|exact⟨⟩|(refine gB ?_;intros)|refine gT ?_ ?_)|refine gs ?_|refine sxSort201 ?_)
 rename_i b13 w13 n13 k13 s13 q13 wa na ka sa
 refine call_k (hsq.out _ FR FR FR) ?_
 rintro _ w2 n2 s2 ⟨ov,rfl,hov⟩
 have ovone:=hov.one
 have hovs:=hov.sl1 (f:=natV)
 have hob:Hid (∀w',Bl w2.heap.size w2 w'→Sl w' w2.heap.size none 1 ov (L.map natV)):=λw' h=>hovs.bl h
 have hovx:Hid (∀w',Ext w2 w'→Own w' wa.heap.size 3 1 ov (L.map natC)):=λw' h=>hov.ext h
 have b2:Bl w2.heap.size w2 w2:=Bl.refl (Nat.le_refl _)
 clear hov hovs hsq
 (repeat' first|(with_reducible first|exact⟨⟩|(refine gB ?_;intros)|refine gT ?_ ?_)|refine gs ?_|refine sxSort201 ?_)
 refine call_k (prefixAlong (B:=B) (Bo:=w2.heap.size) (hT'.out _ FR) FR (hS _ FR) (hW _ FR) (hP _ FR) (hX _ FR) he'.out hsh hv0 hchk hlen hLlt hrun FR (hob.out _ FR)) ?_
 rintro _ w3 n3 s3 ⟨lv,rfl,hlv⟩
 have lvone:=hlv.one
 have hwsl:=runL_ok L y hrun
 generalize hws:(runL sd (l.map (·.x)) p.steps L y).1=ws at *
 have hlvx:Hid (∀w',Ext w3 w'→OwnWL w' w2.heap.size lv ws):=λw' h=>hlv.ext h
 clear hlv
 (repeat' first|(with_reducible first|exact⟨⟩|(refine gB ?_;intros)|refine gT ?_ ?_)|refine gs ?_|refine sxSort201 ?_)
 rename_i b17 w17 n17 k17 s17 q17
 refine st_one KR (by simp) lvone λwb nb kb sb=>?_
 simp only[List.set_cons_zero] at kb
 (repeat' first|(with_reducible first|exact⟨⟩|(refine gB ?_;intros)|refine gT ?_ ?_)|refine gs ?_|refine sxSort201 ?_)
 rename_i b19 w19 n19 k19 s19 q19
 refine st_one KR (by simp) rfl λwc nc kc sc=>?_
 simp only[List.set_cons_zero] at kc
 (repeat' first|(with_reducible first|exact⟨⟩|(refine gB ?_;intros)|refine gT ?_ ?_)|refine gs ?_|refine sxSort201 ?_)
 rename_i b20 w20 n20 k20 s20 q20 b21 w21 n21 k21 s21 q21
 refine call_k (slicesBackward ovone) ?_
 rintro _ wE nE sE ⟨Bs,rfl,hBs,hBsl⟩
 (repeat' first|(with_reducible first|exact⟨⟩|(refine gB ?_;intros)|refine gT ?_ ?_)|refine gs ?_|refine sxSort201 ?_)
 have x2:=Ext.refl w2
 have x3:=Ext.refl w3
 have hwE:w.heap.size≤wE.heap.size:=FR
 have hxE:Ext w wE:=FR
 have l20:b20<wE.heap.size:=FR
 have l21:b21<wE.heap.size:=FR
 have lBs:Bs<wE.heap.size:=hBs.lt
 have g20:w.heap.size≤b20:=FR
 have g21:w.heap.size≤b21:=FR
 have gB2:¬Bs=b20:=by have:=(k20.2.1 w20 k20.2.2.1).lt;have:=s21.2.2.2.1;have:b20<w21.heap.size:=FR;omega
 have gB1:¬Bs=b21:=by have:b21<w21.heap.size:=FR;omega
 have g201:¬b21=b20:=FR
 have h20:Blk wE b20 37 [.slice none 0 0]:=k20.2.1 _ FR
 have h21:Blk wE b21 43 [.slice none 0 0]:=k21.2.1 _ FR
 have hovE:=hovx.out wE FR
 obtain⟨b,cap,hbE,hb20,hb21,hsv,hbc⟩:∃b cap,b<wE.heap.size∧¬b=b20∧¬b=b21∧(ov=.slice (some ⟨b,0,none⟩) L.length cap∨ov=.slice none 0 0∧L=[])∧∀k (h:k<L.length),wE.cell? ⟨b,k,none⟩=some (.int .i64 (L[k]:Nat)):=by
  have h2b:w2.heap.size≤b20:=FR
  have h2c:w2.heap.size≤b21:=FR
  have hov2:=hovx.out w2 x2
  have hcell:=λk (h:k<L.length)=>hovE.cell (i:=k) (j:=0) (by rw[List.length_map];exact h) (by decide)
  rcases hovE.1.2 with ⟨rfl,hn0⟩|⟨g,cap,cur,rfl,_⟩
  ·have hL0:L=[]:=List.eq_nil_of_length_eq_zero (by simpa using hn0)
   subst hL0
   exact⟨Bs,0,lBs,gB2,gB1,.inr ⟨rfl,rfl⟩,λk h=>absurd h (Nat.not_lt_zero _)⟩
  ·have hg2:=(hov2.lt g rfl).2
   refine⟨g,cap,(hovE.lt g rfl).2,by omega,by omega,.inl (by rw[List.length_map]),λk h=>?_⟩
   obtain⟨g',n',c',e1,e2⟩:=hcell k h
   obtain⟨rfl⟩:g=g':=by cases e1;rfl
   rw[Nat.mul_one,Nat.add_zero] at e2
   rw[e2,List.getElem_map]
   rfl
 have F:∀W,TBn (λb=>b∈[b20,b21]) wE W→Hid (Blk W b5 29 (siteC u sd)∧Blk W b6 32 [wv]∧Blk W b7 36 [hv,rv]∧Blk W b8 40 [sv,av]∧Blk W b17 50 [lv]∧Blk W b19 86 [.func (.func 33) #[] #[.pointer (some ⟨b7,0,none⟩),.pointer (some ⟨b17,0,none⟩)]] ∧
  SiteR W B u sd∧WishR W B wv l∧PlanR W B sv av vs p∧WorldR W B hv rv y∧OwnWL W w2.heap.size lv ws):=λW hTW=>by
  have sW:=hTW.sb
  simp only[Sb,List.mem_cons,List.not_mem_nil,or_false,forall_eq_or_imp,forall_eq] at sW
  exact⟨k5.2.1 _ FR,k6.2.1 _ FR,k7.2.1 _ FR,k8.2.1 _ FR,kb.2.1 _ FR,kc.2.1 _ FR,hS _ FR,hW _ FR,hP _ FR,hX _ FR,hlvx.out _ FR⟩
 clear k5 k6 k7 k8 k13 k17 k19 k20 k21 ka kb kc hovE hob hovx hlvx hX hS hW hP hsv1 hav1 hh1 hr1 lvone ovone b2
 clear s5 s6 s7 s8 s1 s13 sa s2 s3 s17 sb s19 sc s20 s21 q5 q6 q7 q8 q13 q17 q19 q20 q21 sE
 have hlen2:L.length≤4096:=by omega
 have hseq:=back_stops Bs b cap hlen2 hsv (λ_=>hbE) hBs hbc
 obtain⟨I,hIe⟩:∃I:List (Fin L.length)→World→Prop,I=BackI wE b20 b21 sd (l.map (·.x)) p.steps (y::ws) L:=⟨_,rfl⟩
 have hI:OwnFrom wE.heap.size I:=by rw[hIe];exact backI_own l20 l21
 have hI0:I [] wE:=by rw[hIe];exact⟨_,_,h20,h21,Own.nil _ _ _ _,Own.nil _ _ _ _,TBn.refl _⟩
 intro a ha
 obtain⟨gE,haE,hf5,hf6,hf8,hf19,hf20,hf21,hf58⟩:∃gE:Fr,Agr Tryz.f10.ntmps a gE∧gE 5=.pointer (some ⟨b5,0,none⟩)∧gE 6=.pointer (some ⟨b6,0,none⟩)∧gE 8=.pointer (some ⟨b8,0,none⟩)∧gE 19=.pointer (some ⟨b19,0,none⟩)∧gE 20=.pointer (some ⟨b20,0,none⟩)∧gE 21=.pointer (some ⟨b21,0,none⟩)∧gE 58=.func (.func 63) #[] #[.pointer (some ⟨Bs,0,none⟩)]:=⟨_,ha,rfl,rfl,rfl,rfl,rfl,rfl,rfl⟩
 clear ha
 refine wpIn_block ?_
 refine range_in (α:=Fin L.length) (encs:=encQ L) (Kp:=KpS Bs b) (S:=PreB L L.length) (N:=4096) (w0:=wE) (gf:=63) (lb:=#[.pointer (some ⟨Bs,0,none⟩)]) haE hf58 (enters_of Tryz.func63 KR rfl) hseq KpS.trans (KpS.refl Bs b) ?_ (Below.refl _ _) (λ_=>rfl) I hI hI0 (λq=>up (up gE 59 (.int .i64 (q.1:Nat))) 60 (.int .i64 (L[q.1]:Nat))) (λq=>up (up (up (up gE 59 (.int .i64 (q.1:Nat))) 60 (.int .i64 (L[q.1]:Nat))) 22 (.int .i64 (q.1:Nat))) 23 (.int .i64 (L[q.1]:Nat))) ?_ KR KR KR KR ?_ ?_ ?_
 ·intro W lo o o' hlo hl _ _
  exact⟨by simp,World.putObj_heap_other (by omega),World.putObj_heap_other (by omega)⟩
 ·intro q a' h
  obtain⟨t,d⟩:=a'
  obtain rfl:d=[]:=h.1
  have h2:=(h.put (some 59) (.int .i64 (q.1:Nat)) (λd h=>by cases h;decide)).put (some 60) (.int .i64 (L[q.1]:Nat)) (λd h=>by cases h;decide)
  have e2:(#[59,60].zip (encQ L q)).foldl (λt (p,v)=>t.setIfInBounds p v) t=(t.setIfInBounds 59 (.int .i64 (q.1:Nat))).setIfInBounds 60 (.int .i64 (L[q.1]:Nat)):=by simp[encQ]
  simp only[e2]
  exact h2
 ·intro q W nW
  (repeat' first|(with_reducible first|exact⟨⟩|(refine gB ?_;intros)|refine gT ?_ ?_)|refine gs ?_|refine sxSort202 ?_)
 ·intro pre q W nW hIW hpl
  rw[hIe] at hIW ⊢
  obtain⟨sl,il,m20,m21,osl,oil,hTW⟩:=hIW
  obtain⟨m5,m6,m7,m8,m17,m19,fS,fW,fP,fX,fO⟩:=(F W hTW).out
  have kW:=hTW.size
  have hBW:B≤W.heap.size:=Nat.le_trans hB (Nat.le_trans hwE kW)
  have hs':=fS.sk hBW
  have hl':=fW.sk hBW
  have hp':=fP.sk hBW
  have hS:=hs'.2.2.2.2.2.2
  have hWi:=hl'.2.2
  have hst:=hp'.1
  have bB:Bl B W W:=Bl.refl hBW
  have bW:Bl W.heap.size W W:=Bl.refl (Nat.le_refl _)
  have hqL:L[q.1]<p.steps.length:=hLlt _ (List.getElem_mem q.2)
  have hqI:((L[q.1]:Nat):Int)<((p.steps.length:Nat):Int):=by omega
  have hstq:=stA_at hqL
  have ones:=osl.one
  have onei:=oil.one
  have onesv:=fP.s.one
  have m5':=m5.bk
  have m6':=m6.bk
  have m8':=m8.bk
  have m19':=m19.bk
  have m20':=m20.bk
  have m21':=m21.bk
  have hcal:callable Tryz.prog 33=true:=by kernel_rfl
  have hb1:=λw' (h:Ext W w')=>undoBack1 (w:=w') (B:=B) (B':=w2.heap.size) (i:=q.1) (Nat.le_trans hBW h.size) (m7.ext h) (m17.ext h) (fX.ext24 hBW h) (fO.ext h) (by have:=q.2;have:=hwsl.1;omega)
  generalize hyq:(y::ws).getD q.1 noW=yq at *
  have hgd:L.getD q.1 0=L[q.1]:=by rw[List.getD_eq_getElem?_getD,List.getElem?_eq_getElem q.2];rfl
  have hbA:backAt sd (l.map (·.x)) p.steps (y::ws) (q.1,L.getD q.1 0)=undoL sd (l.map (·.x)) yq p.steps[L[q.1]]:=by rw[hgd,backAt,hyq,hstq]
  have hlA:lastAt sd (l.map (·.x)) p.steps (y::ws) (q.1,L.getD q.1 0)=lastB sd (l.map (·.x)) yq p.steps[L[q.1]]:=by rw[hgd,lastAt,hyq,hstq]
  have hbl1:=backS_len (s:=sd) (wl:=l.map (·.x)) (steps:=p.steps) (bs:=y::ws) (prs L pre)
  have hll1:=lastS_len (s:=sd) (wl:=l.map (·.x)) (steps:=p.steps) (bs:=y::ws) (prs L pre)
  have hULn:(undoL sd (l.map (·.x)) yq p.steps[L[q.1]]).length≤3:=by
   unfold undoL
   split
   ·unfold undoS
    rw[List.length_map]
    exact undoK_len _ _
   ·exact Nat.zero_le _
  have hprl:(prs L pre).length=pre.length:=by simp[prs]
  have hres:Hid (backS sd (l.map (·.x)) p.steps (y::ws) (prs L (pre++[q]))=backS sd (l.map (·.x)) p.steps (y::ws) (prs L pre)++undoL sd (l.map (·.x)) yq p.steps[L[q.1]]):=by
   show _=_
   rw[prs_snoc,backS_snoc,hbA]
  have hres2:Hid (lastS sd (l.map (·.x)) p.steps (y::ws) (prs L (pre++[q]))=lastS sd (l.map (·.x)) p.steps (y::ws) (prs L pre)++if lastB sd (l.map (·.x)) yq p.steps[L[q.1]]=true then[L[q.1]] else[]):=by
   show _=_
   rw[prs_snoc,lastS_snoc,hlA]
   simp only[hgd]
  replace hb1:Hid _:=hb1
  clear hbA hlA hgd
  obtain⟨UL,hUL⟩:∃UL,undoL sd (l.map (·.x)) yq p.steps[L[q.1]]=UL:=⟨_,rfl⟩
  obtain⟨lb,hlb⟩:∃lb,lastB sd (l.map (·.x)) yq p.steps[L[q.1]]=lb:=⟨_,rfl⟩
  obtain⟨E,hE⟩:∃E,applyE sd (l.map (·.x)) yq p.steps[L[q.1]]=E:=⟨_,rfl⟩
  have hud:∀w',Bl B W w'→W.heap.size≤w'.heap.size→∀a b,WorldR w' w'.heap.size a b yq→CallsV Tryz.prog 35 #[.agg (siteC u sd).toArray,.agg #[wv],.agg #[a,b],stepV p.steps[L[q.1]]] w' λv w2=>Ext w' w2∧∃v0,v=.tuple #[v0,.bool lb,intV E]∧Own w2 w'.heap.size 79 4 v0 (UL.map stepC):=λw' h1 h3 a b hx=>by
   have:=stepUndo (w:=w') (st:=p.steps[L[q.1]]) (B:=w'.heap.size) (Nat.le_refl _) ((hS w' h1).up24 (Nat.le_trans hBW h3)) ((hWi w' h1).up24 (Nat.le_trans hBW h3)) hx
   rw[hUL,hlb,hE] at this
   exact this
  have hres':=hres.out
  have hres2':=hres2.out
  rw[hUL] at hres' hULn
  rw[hlb] at hres2'
  replace hres':Hid _:=hres'
  replace hres2':Hid _:=hres2'
  replace hud:Hid _:=hud
  clear hres hres2 hUL hlb hE
  clear hs' hl' hp' fS fW fP fX fO F
  (repeat' first|(with_reducible first|exact⟨⟩|(refine gB ?_;intros)|refine gT ?_ ?_)|refine gs ?_|simp(maxDischargeDepth:=3) only[↓X,↓Y,↓Q,S1,↓reduceIte,Nat.reduceEqDiff,Nat.reduceAdd,Int.reduceLT,Int.reduceLE,Int.reduceNeg,Int.reduceBEq,Int.reduceBNe,Int.reduceEq,Nat.reduceLeDiff,Nat.reduceMul,Nat.reduceLT, *,↓Xf,siteC]|simp(singlePass:=true) (maxDischargeDepth:=99) only[*,S2,Nat.reduceLT,↓Xf,siteC])
  refine wpdR_rel 17 (λiI v w9=>match iI with
   |0=>v=.agg (siteC u sd).toArray
   |1=>v=.agg #[wv]
   |2=>v=.func (.func 33) #[] #[.pointer (some ⟨b7,0,none⟩),.pointer (some ⟨b17,0,none⟩)]
   |3=>v=.int .i64 (q.1:Nat)
   |4=>∃a b,v=.agg #[a,b]∧WorldR w9 w9.heap.size a b yq
   |5=>v=.pointer (some ⟨b8,0,none⟩)
   |6=>v=sv
   |7=>v=.int .i64 (L[q.1]:Nat)
   |8=>v=elemAt sv 4 L[q.1]
   |9=>v=stepV p.steps[L[q.1]]
   |10=>∃u0,v=.tuple #[u0,.bool lb,intV E]∧Own w9 W.heap.size 79 4 u0 (UL.map stepC)
   |11=>∃u0,v=.tuple #[u0,.bool lb,intV E]∧Own w9 W.heap.size 79 4 u0 (UL.map stepC)
   |12=>∃u0,v=u0∧Own w9 W.heap.size 79 4 u0 (UL.map stepC)
   |13=>v=.bool lb
   |14=>v=intV E
   |15=>∃u0,v=u0∧Own w9 W.heap.size 79 4 u0 (UL.map stepC)
   |16=>v=.bool lb
   |_=>False) KR KR KR ?_ ?_ ?_
  ·intro iI v w1 w2 hR hx9
   match iI,hR with
   |0,h|1,h|2,h|3,h=>exact h
   |4,h=>exact(let ⟨a,b,e,o⟩:=h;⟨a,b,e,o.grow24 hx9⟩)
   |5,h|6,h|7,h|8,h|9,h=>exact h
   |10,h=>exact(let ⟨u,e,o⟩:=h;⟨u,e,o.ext hx9⟩)
   |11,h=>exact(let ⟨u,e,o⟩:=h;⟨u,e,o.ext hx9⟩)
   |12,h=>exact(let ⟨u,e,o⟩:=h;⟨u,e,o.ext hx9⟩)
   |13,h|14,h=>exact h
   |15,h=>exact(let ⟨u,e,o⟩:=h;⟨u,e,o.ext hx9⟩)
   |16,h=>exact h
  ·intro iI oO hi ho gF w9 hx9 hdep hag
   have⟨s9,n9,r9,z9⟩:=bg9 hx9
   rcases iI with _|_|_|_|_|_|_|_|_|_|_|_|_|_|_|_|_|iI
   ·cases ho
    have a5:=hag.at 5 KR
    simp only[S5,↓reduceIte,Nat.reduceEqDiff,initF, *] at a5
    clear hag hdep
    refine relStep_off rfl ?_
    (repeat' first|(with_reducible first|exact⟨⟩|(refine gB ?_;intros)|refine gT ?_ ?_)|refine gs ?_|refine sxSort203 ?_)
   ·cases ho
    have a6:=hag.at 6 KR
    simp only[S5,↓reduceIte,Nat.reduceEqDiff,initF, *] at a6
    clear hag hdep
    refine relStep_off rfl ?_
    (repeat' first|(with_reducible first|exact⟨⟩|(refine gB ?_;intros)|refine gT ?_ ?_)|refine gs ?_|refine sxSort203 ?_)
   ·cases ho
    have a19:=hag.at 19 KR
    simp only[S5,↓reduceIte,Nat.reduceEqDiff,initF, *] at a19
    clear hag hdep
    refine relStep_off rfl ?_
    (repeat' first|(with_reducible first|exact⟨⟩|(refine gB ?_;intros)|refine gT ?_ ?_)|refine gs ?_|refine sxSort203 ?_)
   ·cases ho
    have a22:=hag.at 22 KR
    simp only[S5,↓reduceIte,Nat.reduceEqDiff,initF, *] at a22
    clear hag hdep
    refine relStep_off rfl ?_
    (repeat' first|(with_reducible first|exact⟨⟩|(refine gB ?_;intros)|refine gT ?_ ?_)|refine gs ?_|refine sxSort203 ?_)
   ·cases ho
    have d2:(gF 64)=.func (.func 33) #[] #[.pointer (some ⟨b7,0,none⟩),.pointer (some ⟨b17,0,none⟩)]:=hdep ⟨2,.data⟩ (by simp) rfl _ _ rfl rfl
    have d3:(gF 65)=.int .i64 (q.1:Nat):=hdep ⟨3,.data⟩ (by simp) rfl _ _ rfl rfl
    clear hag hdep
    refine relStep_off rfl ?_
    (repeat' first|(with_reducible first|exact⟨⟩|(refine gB ?_;intros)|refine gT ?_ ?_)|refine gs ?_|refine sxSort203 ?_)
    refine CallsV.mono (hb1.out _ hx9) λv w10 hh=>⟨hh.1,?_⟩
    obtain⟨hx10,xa,xb,rfl,ho⟩:=hh
    exact⟨xa,xb,rfl,ho.h.more hx10.size,ho.r.more hx10.size⟩
   ·cases ho
    have a8:=hag.at 8 KR
    simp only[S5,↓reduceIte,Nat.reduceEqDiff,initF, *] at a8
    clear hag hdep
    refine relStep_off rfl ?_
    (repeat' first|(with_reducible first|exact⟨⟩|(refine gB ?_;intros)|refine gT ?_ ?_)|refine gs ?_|refine sxSort203 ?_)
   ·cases ho
    have d5:(gF 67)=.pointer (some ⟨b8,0,none⟩):=hdep ⟨5,.data⟩ (by simp) rfl _ _ rfl rfl
    clear hag hdep
    refine relStep_off rfl ?_
    (repeat' first|(with_reducible first|exact⟨⟩|(refine gB ?_;intros)|refine gT ?_ ?_)|refine gs ?_|refine sxSort203 ?_)
   ·cases ho
    have a23:=hag.at 23 KR
    simp only[S5,↓reduceIte,Nat.reduceEqDiff,initF, *] at a23
    clear hag hdep
    refine relStep_off rfl ?_
    (repeat' first|(with_reducible first|exact⟨⟩|(refine gB ?_;intros)|refine gT ?_ ?_)|refine gs ?_|refine sxSort203 ?_)
   ·cases ho
    have d6:(gF 68)=sv:=hdep ⟨6,.data⟩ (by simp) rfl _ _ rfl rfl
    have d7:(gF 69)=.int .i64 (L[q.1]:Nat):=hdep ⟨7,.data⟩ (by simp) rfl _ _ rfl rfl
    clear hag hdep
    refine relStep_off rfl ?_
    (repeat' first|(with_reducible first|exact⟨⟩|(refine gB ?_;intros)|refine gT ?_ ?_)|refine gs ?_|refine sxSort203 ?_)
   ·cases ho
    have d8:(gF 70)=elemAt sv 4 L[q.1]:=hdep ⟨8,.data⟩ (by simp) rfl _ _ rfl rfl
    clear hag hdep
    refine relStep_off rfl ?_
    (repeat' first|(with_reducible first|exact⟨⟩|(refine gB ?_;intros)|refine gT ?_ ?_)|refine gs ?_|refine sxSort203 ?_)
   ·cases ho
    have d0:(gF 62)=.agg (siteC u sd).toArray:=hdep ⟨0,.data⟩ (by simp) rfl _ _ rfl rfl
    have d1:(gF 63)=.agg #[wv]:=hdep ⟨1,.data⟩ (by simp) rfl _ _ rfl rfl
    obtain⟨xa,xb,e4,o4⟩:=hdep ⟨4,.data⟩ (by simp) rfl _ _ rfl rfl
    have d9:(gF 71)=stepV p.steps[L[q.1]]:=hdep ⟨9,.data⟩ (by simp) rfl _ _ rfl rfl
    clear hag hdep
    refine relStep_off rfl ?_
    (repeat' first|(with_reducible first|exact⟨⟩|(refine gB ?_;intros)|refine gT ?_ ?_)|refine gs ?_|refine sxSort203 ?_)
    refine CallsV.mono (hud.out _ FR FR _ _ o4) λv w10 hh=>⟨hh.1,?_⟩
    obtain⟨_,u0,rfl,ho⟩:=hh
    exact⟨u0,rfl,ho.more z9⟩
   ·cases ho
    obtain⟨u7,e7,o7⟩:=hdep ⟨10,.data⟩ (by simp) rfl _ _ rfl rfl
    clear hag hdep
    refine relStep_off rfl ?_
    (repeat' first|(with_reducible first|exact⟨⟩|(refine gB ?_;intros)|refine gT ?_ ?_)|refine gs ?_|refine sxSort203 ?_)
    exact⟨u7,rfl,o7⟩
   ·cases ho
    obtain⟨u8,e8,o8⟩:=hdep ⟨11,.data⟩ (by simp) rfl _ _ rfl rfl
    clear hag hdep
    refine relStep_off rfl ?_
    (repeat' first|(with_reducible first|exact⟨⟩|(refine gB ?_;intros)|refine gT ?_ ?_)|refine gs ?_|refine sxSort203 ?_)
    exact⟨_,rfl,o8⟩
   ·cases ho
    obtain⟨u8,e8,o8⟩:=hdep ⟨11,.data⟩ (by simp) rfl _ _ rfl rfl
    clear hag hdep
    refine relStep_off rfl ?_
    (repeat' first|(with_reducible first|exact⟨⟩|(refine gB ?_;intros)|refine gT ?_ ?_)|refine gs ?_|refine sxSort203 ?_)
   ·cases ho
    obtain⟨u8,e8,o8⟩:=hdep ⟨11,.data⟩ (by simp) rfl _ _ rfl rfl
    clear hag hdep
    refine relStep_off rfl ?_
    (repeat' first|(with_reducible first|exact⟨⟩|(refine gB ?_;intros)|refine gT ?_ ?_)|refine gs ?_|refine sxSort203 ?_)
   ·cases ho
    obtain⟨u12,e12,o12⟩:=hdep ⟨12,.data⟩ (by simp) rfl _ _ rfl rfl
    have U12:=o12.one
    clear hag hdep
    refine relStep_off rfl ?_
    (repeat' first|(with_reducible first|exact⟨⟩|(refine gB ?_;intros)|refine gT ?_ ?_)|refine gs ?_|refine sxSort203 ?_)
    exact⟨_,rfl,o12⟩
   ·cases ho
    have d13:(gF 74)=.bool lb:=hdep ⟨13,.data⟩ (by simp) rfl _ _ rfl rfl
    clear hag hdep
    refine relStep_off rfl ?_
    (repeat' first|(with_reducible first|exact⟨⟩|(refine gB ?_;intros)|refine gT ?_ ?_)|refine gs ?_|refine sxSort203 ?_)
   ·omega
  ·intro g9 w9 hx9 hR hag
   have⟨s9,n9,r9,z9⟩:=bg9 hx9
   have d14:(g9 75)=intV E:=hR 14 _ _ (by decide) rfl rfl
   have d15:∃u0,(g9 24)=u0∧Own w9 W.heap.size 79 4 u0 (UL.map stepC):=hR 15 _ _ (by decide) rfl rfl
   obtain⟨u15,e15,o15⟩:=d15
   have U15:=o15.one
   have d16:(g9 25)=.bool lb:=hR 16 _ _ (by decide) rfl rfl
   have a20:=hag.at 20 KR
   have a21:=hag.at 21 KR
   have a23:=hag.at 23 KR
   simp only[S5,↓reduceIte,Nat.reduceEqDiff,initF, *] at a20 a21 a23
   clear hag hR
   simp only[List.drop_succ_cons,List.drop_zero]
   have osl9:=osl.ext hx9
   have oil9:=oil.ext hx9
   have m209:=m20.ext hx9
   have m219:=m21.ext hx9
   have hBE9:wE.heap.size≤w9.heap.size:=Nat.le_trans kW z9
   have hor15:Hid (Own w9 W.heap.size 79 4 u15 (UL.map stepC)):=o15
   clear o15
   (repeat' first|(with_reducible first|exact⟨⟩|(refine gB ?_;intros)|refine gT ?_ ?_)|refine gs ?_|refine sxSort202 ?_)
   refine appendAll_kg (e:=79) (sz:=4) (by_:=32) (z:=.agg #[.int .u8 0,.int .i64 0,.int .i64 0,.int .i64 0]) (B:=wE.heap.size) (c:=stepC) KR KR rfl (by decide) (by decide) osl9 (hor15.out.slN (f:=stepC)) (λ_=>rfl) stepC_one (by omega) hBE9 λv1 wa na hga ho1=>?_
   have o1one:=ho1.one
   have m20a:=blk_grown osl9 hga m209 l20
   have m21a:=blk_grown osl9 hga m219 l21
   have k20a:=m20a.bk
   have k21a:=m21a.bk
   have oila:=own_grown osl9 hga (by decide) oil9
   have hBEa:wE.heap.size≤wa.heap.size:=Nat.le_trans hBE9 hga.size
   have ca:Cg b20 wa wa:=Chg.refl' wa b20
   (repeat' first|(with_reducible first|exact⟨⟩|(refine gB ?_;intros)|refine gT ?_ ?_)|refine gs ?_|refine sxSort202 ?_)
   refine st_one KR (by simp) o1one λwb nb kb sb=>?_
   have cb:Cg b20 wa wb:=FR
   have m20b:Blk wb b20 37 [v1]:=kb.2.1 _ kb.2.2.1
   have m21b:Blk wb b21 43 [il]:=cb.blk m21a g201
   have k21b:=m21b.bk
   have ho1b:=ho1.fr m20a cb (.inl (by decide))
   have oilb:=oila.fr m20a cb (.inl (by decide))
   have hKF:KeepsFrom wE.heap.size W wb:=(keeps_ext hx9).trans ((keeps_grown osl9 hga).trans (keeps_chg cb l20))
   have hLo:Lo wE.heap.size (λc=>c∈[b20,b21]) W wb:=(lo_ext hx9 kW).trans ((lo_grown osl9 hga hBE9).trans (lo_chg cb (by simp) hBEa))
   have hBEb:wE.heap.size≤wb.heap.size:=Nat.le_trans hBEa cb.size
   have hr1:=hres'.out
   have hr2:=hres2'.out
   cases lb
   ·have e2:lastS sd (l.map (·.x)) p.steps (y::ws) (prs L (pre++[q]))=lastS sd (l.map (·.x)) p.steps (y::ws) (prs L pre):=by rw[hr2];simp
    obtain⟨ht,hkp⟩:=lo_fin hLo hTW lBs hbE gB2 gB1 hb20 hb21
    have FIN:Hid (KeepsFrom wE.heap.size W wb∧KpS Bs b W wb∧BackI wE b20 b21 sd (l.map (·.x)) p.steps (y::ws) L (pre++[q]) wb):=⟨hKF,hkp,v1,il,m20b,m21b,by rw[hr1];exact ho1b,by rw[e2];exact oilb,ht⟩
    clear hKF hLo ht hkp ho1b oilb oila ho1 osl9 oil9 hr1 hr2 e2
    (repeat' first|(with_reducible first|exact⟨⟩|(refine gB ?_;intros)|refine gT ?_ ?_)|refine gs ?_|refine sxSort202 ?_)
    exact FIN.out
   ·have e2:lastS sd (l.map (·.x)) p.steps (y::ws) (prs L (pre++[q]))=lastS sd (l.map (·.x)) p.steps (y::ws) (prs L pre)++[L[q.1]]:=by rw[hr2];simp
    have e3:(intL (lastS sd (l.map (·.x)) p.steps (y::ws) (prs L (pre++[q])))).map intC=(intL (lastS sd (l.map (·.x)) p.steps (y::ws) (prs L pre))).map intC++[intC (L[q.1]:Nat)]:=by rw[e2];simp[intL]
    have hKF':Hid _:=hKF
    have hLo':Hid _:=hLo
    have ho1b':Hid _:=ho1b
    have oilb':Hid _:=oilb
    have e3':Hid _:=e3
    have hr1':Hid _:=hr1
    have rb:=Ext.refl wb
    have hilen:(intL (lastS sd (l.map (·.x)) p.steps (y::ws) (prs L pre))).length<1000000000000:=by simp only[intL,List.length_map];omega
    clear hKF hLo ho1b oilb oila ho1 osl9 oil9 hr1 hr2 e2 e3
    (repeat' first|(with_reducible first|exact⟨⟩|(refine gB ?_;intros)|refine gT ?_ ?_)|refine gs ?_|refine sxSort202 ?_)
    rename_i b10 wt nt kt st qt lt
    have hxt:Ext wb wt:=FR
    have hBEt:wE.heap.size≤wt.heap.size:=Nat.le_trans hBEb hxt.size
    have oilt:=oilb'.out.ext hxt
    have k10t:=kt.2.1 _ kt.2.2.1
    refine append_row (e:=3) (sz:=1) (by_:=8) (z:=.int .i64 0) (ns:=[intC (L[q.1]:Nat)]) KR KR rfl (by decide) oilt k10t (by simp[intC]) (by simp[intC,intV,Value.oneCell']) rfl (by simp only[List.length_map,List.length_cons,List.length_nil];omega) hBEt λv2 wd ho2 hgd hbd hdd=>?_
    have nd:Now wd:=trivial
    have o2one:=ho2.one
    have m20d:=blk_grown oilt hgd (m20b.ext hxt) l20
    have m21d:=blk_grown oilt hgd (m21b.ext hxt) l21
    have k21d:=m21d.bk
    have k20d:=m20d.bk
    have ho1d:=own_grown oilt hgd (by decide) (ho1b'.out.ext hxt)
    have hBEd:wE.heap.size≤wd.heap.size:=Nat.le_trans hBEt hgd.size
    have cd:Cg b21 wd wd:=Chg.refl' wd b21
    have g210:¬b20=b21:=λe=>g201 e.symm
    (repeat' first|(with_reducible first|exact⟨⟩|(refine gB ?_;intros)|refine gT ?_ ?_)|refine gs ?_|refine sxSort202 ?_)
    refine st_one KR (by simp) o2one λwe ne ke se=>?_
    have ce:Cg b21 wd we:=FR
    have m21e:Blk we b21 43 [v2]:=ke.2.1 _ ke.2.2.1
    have m20e:Blk we b20 37 [v1]:=ce.blk m20d g210
    have ho1e:=ho1d.fr m21d ce (.inl (by decide))
    have ho2e:=ho2.fr m21d ce (.inl (by decide))
    have hKF2:KeepsFrom wE.heap.size W we:=hKF'.out.trans ((keeps_ext hxt).trans ((keeps_grown oilt hgd).trans (keeps_chg ce l21)))
    have hLo2:Lo wE.heap.size (λc=>c∈[b20,b21]) W we:=Lo.trans hLo'.out ((lo_ext hxt hBEb).trans ((lo_grown oilt hgd hBEt).trans (lo_chg ce (by simp) hBEd)))
    obtain⟨ht,hkp⟩:=lo_fin hLo2 hTW lBs hbE gB2 gB1 hb20 hb21
    have FIN:Hid (KeepsFrom wE.heap.size W we∧KpS Bs b W we∧BackI wE b20 b21 sd (l.map (·.x)) p.steps (y::ws) L (pre++[q]) we):=⟨hKF2,hkp,v1,v2,m20e,m21e,by rw[hr1'.out];exact ho1e,by rw[e3'.out];exact ho2e,ht⟩
    clear hKF2 hLo2 ht hkp ho1e ho2e ho1d ho2 oilt
    (repeat' first|(with_reducible first|exact⟨⟩|(refine gB ?_;intros)|refine gT ?_ ?_)|refine gs ?_|refine sxSort202 ?_)
    exact FIN.out
 ·intro D xs W hD hS hiI hK
  rw[hIe] at hiI
  obtain⟨sl,il,m20,m21,osl,oil,hTW⟩:=hiI
  rw[prs_all hS] at osl oil
  have hBEW:wE.heap.size≤W.heap.size:=hTW.size
  have k20':=m20.bk
  have k21':=m21.bk
  have ones:=osl.one
  have onei:=oil.one
  have nW:Now W:=trivial
  have hDl:D<W.heap.size:=(Array.getElem?_eq_some_iff.1 hK).1
  clear F hI hI0 hseq hchk hLlt hnd hsh hwsl hbc
  refine(show Code.wpIn Fence.wide 2 Tryz.prog _ _ (wD _ a) W from ?_)
  refine wpIn_mono (wpf_in (ro:=none) (m:=2) (ds:=[{ target:=.collected D,args:=#[] }]) _ (λe g W=>e=.ret∧W.heap[D]? = some (.deferred (some []))∧resY Tryz.prog (Tryz.f10).results g (W.putObj D (.deferred none)) _) gE W a KR KR haE ?_) (λe a w h=>marks_post h)
  rw[Tryz.results10]
  (repeat' first|(with_reducible first|exact⟨⟩|(refine gB ?_;intros)|refine gT ?_ ?_)|refine gs ?_|refine sxSort202 ?_)
  refine CallsV.mono (sortIntsG (B:=wE.heap.size) hBEW oil) λr wt hh=>?_
  obtain⟨hgs,rfl,hos⟩:=hh
  have nS:Now wt:=trivial
  have m20s:=blk_grown oil hgs m20 l20
  have m21s:=blk_grown oil hgs m21 l21
  have k20s:=m20s.bk
  have k21s:=m21s.bk
  have osls:=own_grown oil hgs (by decide) osl
  have hDs:wt.heap[D]? = some (.deferred (some [])):=(hgs.block D hDl λe1=>by
   obtain⟨cur,h1⟩:=oil.obj24 e1.symm
   rw[hK] at h1
   cases h1).trans hK
  have hLoS:Lo wE.heap.size (λc=>c∈[b20,b21]) W wt:=lo_grown oil hgs hBEW
  have hsl':Hid _:=osls
  have hil':Hid _:=hos
  clear k20' k21' osls hos
  (repeat' first|(with_reducible first|exact⟨⟩|(refine gB ?_;intros)|refine gT ?_ ?_)|refine gs ?_|refine sxSort202 ?_)
  refine wpdR_rel 4 (λiI v w9=>match iI with
   |0=>v=sl
   |1=>v=il
   |2=>v=sl
   |3=>v=il
   |_=>False) KR KR KR ?_ ?_ ?_
  ·intro iI v w1 w2 hR hx9
   match iI,hR with
   |0,h|1,h|2,h|3,h=>exact h
  ·intro iI oO hi ho gF w9 hx9 hdep hag
   have⟨s9,n9,r9,z9⟩:=bg9 hx9
   rcases iI with _|_|_|_|iI
   ·cases ho
    have a20:=hag.at 20 KR
    simp only[S5,↓reduceIte,Nat.reduceEqDiff,initF, *] at a20
    clear hag hdep
    refine relStep_off rfl ?_
    (repeat' first|(with_reducible first|exact⟨⟩|(refine gB ?_;intros)|refine gT ?_ ?_)|refine gs ?_|refine sx ?_)
   ·cases ho
    have a21:=hag.at 21 KR
    simp only[S5,↓reduceIte,Nat.reduceEqDiff,initF, *] at a21
    clear hag hdep
    refine relStep_off rfl ?_
    (repeat' first|(with_reducible first|exact⟨⟩|(refine gB ?_;intros)|refine gT ?_ ?_)|refine gs ?_|refine sx ?_)
   ·cases ho
    have d0:(gF 86)=sl:=hdep ⟨0,.data⟩ (by simp) rfl _ _ rfl rfl
    clear hag hdep
    refine relStep_off rfl ?_
    (repeat' first|(with_reducible first|exact⟨⟩|(refine gB ?_;intros)|refine gT ?_ ?_)|refine gs ?_|refine sx ?_)
   ·cases ho
    have d1:(gF 87)=il:=hdep ⟨1,.data⟩ (by simp) rfl _ _ rfl rfl
    clear hag hdep
    refine relStep_off rfl ?_
    (repeat' first|(with_reducible first|exact⟨⟩|(refine gB ?_;intros)|refine gT ?_ ?_)|refine gs ?_|refine sx ?_)
   ·omega
  ·intro g9 w9 hx9 hR hag
   have⟨s9,n9,r9,z9⟩:=bg9 hx9
   have d2:(g9 10)=sl:=hR 2 _ _ (by decide) rfl rfl
   have d3:(g9 11)=il:=hR 3 _ _ (by decide) rfl rfl
   clear hag hR
   simp only[List.drop_succ_cons,List.drop_zero]
   have hD9:w9.heap[D]? = some (.deferred (some [])):=(hx9.block D (Array.getElem?_eq_some_iff.1 hDs).1).trans hDs
   have nP:Now (w9.putObj D (.deferred none)):=trivial
   have hfx:Hid (Ext w (w9.putObj D (.deferred none))∧Own (w9.putObj D (.deferred none)) w.heap.size 79 4 sl ((backS sd (l.map (·.x)) p.steps (y::ws) (xsL L)).map stepC)∧Own (w9.putObj D (.deferred none)) w.heap.size 3 1 il ((sortI (intL (lastS sd (l.map (·.x)) p.steps (y::ws) (xsL L)))).map intC)):=by
    refine⟨⟨?_,?_,?_,?_,λk hk=>?_⟩,Own.more (own_put (hsl'.out.ext hx9) hD9) hwE,Own.more (own_put (hil'.out.ext hx9) hD9) hwE⟩
    ·exact hx9.os.trans (hLoS.1.trans (hTW.os.trans hxE.os))
    ·exact hx9.tape.trans (hLoS.2.1.trans (hTW.tape.trans hxE.tape))
    ·exact hx9.output.trans (hLoS.2.2.1.trans (hTW.output.trans hxE.output))
    ·rw[World.putObj_size]
     exact Nat.le_trans hwE (Nat.le_trans hBEW (Nat.le_trans hgs.size hx9.size))
    ·have k1:k<wE.heap.size:=Nat.lt_of_lt_of_le hk hwE
     have k2:k<W.heap.size:=Nat.lt_of_lt_of_le k1 hBEW
     have k3:k<wt.heap.size:=Nat.lt_of_lt_of_le k2 hgs.size
     have n2:¬k∈[b20,b21]:=by simp;omega
     exact(World.putObj_heap_other (by omega)).trans ((hx9.block k k3).trans ((hLoS.2.2.2.2 k k1 n2).trans ((hTW.block k k1 n2).trans (hxE.block k hk))))
   clear hsl' hil' hLoS
   (repeat' first|(with_reducible first|exact⟨⟩|(refine gB ?_;intros)|refine gT ?_ ?_)|refine gs ?_|refine sxSort202 ?_)
   exact⟨hfx.out.1,_,_,rfl,hfx.out.2.1,hfx.out.2.2⟩
end
end Go.Proofs.YtphciegaokdolaaGreatDoor
