/- The places of a list with its elements, the last first. -/
import Derived.Test.YtphciegaokdolaaGreatDoorEng1
import Derived.Test.YtphciegaokdolaaGreatDoorPlan
import Derived.Test.YtphciegaokdolaaGreatDoorStep2
namespace Go.Proofs.YtphciegaokdolaaGreatDoor
set_option linter.unusedSimpArgs false
set_option linter.unusedVariables false
open Go
set_option linter.unusedSectionVars false
section
variable{L:List Nat}
def xsL(L:List Nat):List (Nat×Nat):=(List.range L.length).reverse.map λi=>(i,L.getD i 0)
theorem xsL_len(L:List Nat):(xsL L).length=L.length:=by simp[xsL]
theorem xsL_get{i:Nat}(h:i<(xsL L).length):(xsL L)[i]=(L.length - 1 - i,L.getD (L.length - 1 - i) 0):=by
 simp[xsL]
theorem xsL_take{i:Nat}(h:i<L.length):(xsL L).take (i+1)=(xsL L).take i++[(L.length - 1 - i,L.getD (L.length - 1 - i) 0)]:=by
 rw[List.take_add_one,List.getElem?_eq_getElem (by rw[xsL_len];exact h),xsL_get];rfl
end
open Go Go.RowKit
set_option maxRecDepth 100000
set_option maxHeartbeats 1000000
def Chk(p:PlanD):Nat→List Nat→Prop
 |_,[]=>True
 |d,i::r=>idealB p d=true∧i<p.steps.length∧d.testBit i=false∧openB p d i=true∧Chk p (d|||2^i) r
theorem u24_openB{p:PlanD}{a b i:Nat}(h:∀j,a.testBit j=true→b.testBit j=true)(ho:openB p a i=true):openB p b i=true:=by
 simp only[openB,List.all_eq_true] at ho ⊢
 exact λk hk=>h _ (ho k hk)
theorem u24_with{p:PlanD}{done q:Nat}(hd:idealB p done=true)(hq:q<p.steps.length)(ho:openB p done q=true):idealB p (done|||2^q)=true:=by
 simp only[idealB,Bool.and_eq_true,decide_eq_true_eq] at hd ⊢
 refine⟨Nat.or_lt_two_pow hd.1 (Nat.pow_lt_pow_right (by decide) hq),λi hi hb=>?_⟩
 have hm:∀j,done.testBit j=true→(done|||2^q).testBit j=true:=λj hj=>by rw[Nat.testBit_or,hj];rfl
 rw[Nat.testBit_or,Nat.testBit_two_pow,Bool.or_eq_true] at hb
 rcases hb with hb|hb
 ·exact u24_openB hm (hd.2 i hi hb)
 ·have:q=i:=by simpa using hb
  subst this
  exact u24_openB hm ho
theorem chk_seq{p:PlanD}{set:Nat}(ho:Shape p)(ha:Acyc p)(hi:idealB p set=true):∀(f done:Nat),idealB p done=true→(∀j,done.testBit j=true→set.testBit j=true)→Chk p done (seqF p set f done)
 |0,_,_,_=>trivial
 |f+1,done,hd,hsub=>by
  rw[seqF]
  split
  ·trivial
  ·rename_i hne
   obtain⟨q,h1,h2,h3,h4,h5⟩:=next_some ho ha hi hsub hne
   rw[h1]
   refine⟨hd,h2,h4,h5,chk_seq ho ha hi f _ (u24_with hd h2 h5) λj hj=>?_⟩
   rw[Nat.testBit_or,Nat.testBit_two_pow,Bool.or_eq_true] at hj
   rcases hj with hj|hj
   ·exact hsub j hj
   ·have:q=j:=by simpa using hj
    rw[←this];exact h3
theorem chk_mem{p:PlanD}:∀{l:List Nat} {d:Nat},Chk p d l→l.Nodup∧∀x∈l,x<p.steps.length∧d.testBit x=false
 |[],_,_=>⟨List.nodup_nil,λx h=>by cases h⟩
 |i::r,d,⟨_,h1,h2,_,h3⟩=>by
  obtain⟨h4,h5⟩:=chk_mem h3
  refine⟨List.nodup_cons.2 ⟨λhm=>?_,h4⟩,λx hx=>?_⟩
  ·have:=(h5 i hm).2
   rw[Nat.testBit_or,Nat.testBit_two_pow_self,Bool.or_true] at this
   cases this
  ·rcases List.mem_cons.1 hx with rfl|hx
   ·exact⟨h1,h2⟩
   ·have:=h5 x hx
    rw[Nat.testBit_or,Bool.or_eq_false_iff] at this
    exact⟨this.1,this.2.1⟩
def stA(steps:List StepD)(i:Nat):StepD:=(steps[i]?).getD ⟨0,0,0,0⟩
theorem stA_at{steps:List StepD}{i:Nat}(h:i<steps.length):stA steps i=steps[i]:=by rw[stA,List.getElem?_eq_getElem h];rfl
def runL(s:SiteD)(wl:List ServiceD)(steps:List StepD):List Nat→WorldD→List WorldD×Int
 |[],_=>([],-1)
 |i::r,x=>if applyE s wl x (stA steps i)=0 then(applyW s wl x (stA steps i)::(runL s wl steps r (applyW s wl x (stA steps i))).1,(runL s wl steps r (applyW s wl x (stA steps i))).2) else([],(i:Int))
def lastW(ws:List WorldD)(y:WorldD):WorldD:=ws.getLast?.getD y
theorem lastW_snoc(ws:List WorldD)(x y:WorldD):lastW (ws++[x]) y=x:=by simp[lastW]
theorem lastW_get{ws:List WorldD}{y:WorldD}(h:0<ws.length):lastW ws y=ws[ws.length - 1]:=by
 rw[lastW,List.getLast?_eq_getElem?,List.getElem?_eq_getElem (by omega)];rfl
structure RunAt (s:SiteD) (wl:List ServiceD) (steps:List StepD) (L:List Nat) (y:WorldD) (k:Nat) (ws:List WorldD) (x:WorldD):Prop where
 l:ws.length=k
 xe:x=lastW ws y
 r:runL s wl steps L y=(ws++(runL s wl steps (L.drop k) x).1,(runL s wl steps (L.drop k) x).2)
section
variable{s:SiteD}{wl:List ServiceD}{steps:List StepD}{L:List Nat}{y x:WorldD}{k:Nat}{ws:List WorldD}
theorem RunAt.start:RunAt s wl steps L y 0 [] y:=⟨rfl,rfl,rfl⟩
theorem RunAt.more(h:RunAt s wl steps L y k ws x)(hk:k<L.length)(e:applyE s wl x (stA steps L[k])=0):RunAt s wl steps L y (k+1) (ws++[applyW s wl x (stA steps L[k])]) (applyW s wl x (stA steps L[k])):=by
 refine⟨by rw[List.length_append,h.l];rfl,(lastW_snoc ..).symm,?_⟩
 rw[h.r,List.drop_eq_getElem_cons hk,runL,if_pos e,List.append_assoc];rfl
theorem RunAt.stop(h:RunAt s wl steps L y k ws x)(hk:k<L.length)(e:applyE s wl x (stA steps L[k])≠0):runL s wl steps L y=(ws,(L[k]:Int)):=by
 rw[h.r,List.drop_eq_getElem_cons hk,runL,if_neg e,List.append_nil]
theorem RunAt.done(h:RunAt s wl steps L y L.length ws x):runL s wl steps L y=(ws,-1):=by
 rw[h.r,List.drop_length,runL,List.append_nil]
theorem runL_bad:∀(L:List Nat) (y:WorldD),(runL s wl steps L y).2=-1∨0≤(runL s wl steps L y).2
 |[],_=>.inl rfl
 |i::r,y=>by
  rw[runL]
  split
  ·exact runL_bad r _
  ·exact .inr (Int.natCast_nonneg i)
theorem runL_len:∀(L:List Nat) (y:WorldD),(runL s wl steps L y).1.length≤L.length
 |[],_=>Nat.le_refl _
 |i::r,y=>by
  rw[runL]
  split
  ·have:=runL_len r (applyW s wl y (stA steps i))
   simp only[List.length_cons];omega
  ·exact Nat.zero_le _
theorem runL_ok:∀(L:List Nat) (y:WorldD),(runL s wl steps L y).2=-1→(runL s wl steps L y).1.length=L.length∧∀i (h:i<L.length),applyE s wl ((y::(runL s wl steps L y).1).getD i noW) (stA steps L[i])=0∧(y::(runL s wl steps L y).1).getD (i+1) noW=applyW s wl ((y::(runL s wl steps L y).1).getD i noW) (stA steps L[i])
 |[],_,_=>⟨rfl,λi h=>absurd h (Nat.not_lt_zero _)⟩
 |a::r,y,h=>by
  rw[runL] at h ⊢
  split at h
  ·rename_i e
   rw[if_pos e]
   obtain⟨h1,h2⟩:=runL_ok r (applyW s wl y (stA steps a)) h
   refine⟨by simp only[List.length_cons,h1],λi hi=>?_⟩
   cases i with
   |zero=>exact⟨e,rfl⟩
   |succ i=>
    have:=h2 i (by simpa using hi)
    simpa using this
  ·simp only at h;omega
def wldE(e:Int)(s:SiteD)(wl:List ServiceD)(p:PlanD)(y:WorldD)(x:Int):Int:=if askedE e p x=0 then(if validB s wl y=true then(if (runL s wl p.steps (seqF p x.toNat 4096 0) y).2=-1 then 0 else 8) else 1) else askedE e p x
def wldW(e:Int)(s:SiteD)(wl:List ServiceD)(p:PlanD)(y:WorldD)(x:Int):WorldD:=if wldE e s wl p y x=0 then lastW (runL s wl p.steps (seqF p x.toNat 4096 0) y).1 y else noW
def backAt(s:SiteD)(wl:List ServiceD)(steps:List StepD)(bs:List WorldD)(q:Nat×Nat):List StepD:=undoL s wl (bs.getD q.1 noW) (stA steps q.2)
def lastAt(s:SiteD)(wl:List ServiceD)(steps:List StepD)(bs:List WorldD)(q:Nat×Nat):Bool:=lastB s wl (bs.getD q.1 noW) (stA steps q.2)
def backS(s:SiteD)(wl:List ServiceD)(steps:List StepD)(bs:List WorldD)(xs:List (Nat×Nat)):List StepD:=(xs.map (backAt s wl steps bs)).flatten
def lastS(s:SiteD)(wl:List ServiceD)(steps:List StepD)(bs:List WorldD)(xs:List (Nat×Nat)):List Nat:=(xs.filter (lastAt s wl steps bs)).map (·.2)
theorem backS_snoc(bs:List WorldD)(xs:List (Nat×Nat))(q:Nat×Nat):backS s wl steps bs (xs++[q])=backS s wl steps bs xs++backAt s wl steps bs q:=by simp[backS]
theorem lastS_snoc(bs:List WorldD)(xs:List (Nat×Nat))(q:Nat×Nat):lastS s wl steps bs (xs++[q])=lastS s wl steps bs xs++if lastAt s wl steps bs q=true then[q.2] else[]:=by
 unfold lastS
 rw[List.filter_append,List.map_append,List.filter_cons]
 split<;>simp
end
end Go.Proofs.YtphciegaokdolaaGreatDoor
