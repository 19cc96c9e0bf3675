/- What the statements on layer 20 call: Open, few. -/
import Derived.Test.YtphciegaokdolaaGreatDoorRef20
import Derived.Test.YtphciegaokdolaaGreatDoorMid
import Derived.Test.YtphciegaokdolaaGreatDoorTzTab
import Derived.Test.YtphciegaokdolaaGreatDoorWorld1
namespace Go.Proofs.YtphciegaokdolaaGreatDoor
set_option linter.unusedSimpArgs false
set_option linter.unusedVariables false
open Go Go.RowKit
set_option maxRecDepth 100000
set_option linter.unusedSectionVars false
set_option maxHeartbeats 1000000
theorem ref20Open{w:World}{B:Nat}{sv av:Value}{vs:List Value}{p:PlanD}{set i:Nat}(hB:B≤w.heap.size)(hp:PlanR w B sv av vs p)(ho:Shape p)(hs:set<4096)(hi:i<p.steps.length) :
 Ret Tryz.prog 68 #[.agg #[sv,av],natV set,natV i] w (.bool (openB p set i)):=by
 (refine callsV_of Tryz.func68 rfl KR KR ?_;rw[Tryz.results68])
 have hsm:=ho.small
 have hia:i<p.after.length:=by rw[ho.len];exact hi
 simp only[↓X,↓Y,↓Q,S0,↓reduceIte,Nat.reduceEqDiff,Nat.reduceAdd,Int.reduceLT,Int.reduceLE,Int.reduceNeg,now w,natV,intV]
 refine alloc_intro λb1 w1 hb1 hx1 _=>?_
 simp only[↓X,↓Y,↓Q,S0,↓reduceIte,Nat.reduceEqDiff,Nat.reduceAdd,Int.reduceLT,Int.reduceLE,Int.reduceNeg,now w1]
 refine loopX_intro (λm g w'=>∃(k:Nat),k+m=p.after[i].length∧g 1=.int .i64 set∧g 2=.int .i64 i∧g 3=.pointer (some ⟨b1,0,none⟩)∧g 7=.int .i64 k∧(∀j (h:j<p.after[i].length),j<k→set.testBit (p.after[i][j]).toNat=true)∧Ext w1 w') p.after[i].length KR ?_ ?_
 ·refine⟨0,by omega,?_⟩
  simp only[↓X,↓Y,↓Q,S0,↓reduceIte,Nat.reduceEqDiff,Nat.reduceAdd,Int.reduceLT,Int.reduceLE,Int.reduceNeg]
  (repeat' apply And.intro)<;>first|rfl|assumption|exact Ext.refl _|exact λj _ h=>absurd h (by omega)
 ·rintro m g w2 ⟨k,hk,h1,h2,h3,h7,hall,hx⟩
  have hxx:=hx1.trans hx
  obtain⟨u,hu,hsu⟩:=(hp.a.ext hxx hB).get hia
  by_cases hlt:k<p.after[i].length
  ·obtain⟨r1,r2⟩:=ho.range _ (List.getElem_mem hia) _ (List.getElem_mem hlt)
   have hat:=hsu.at_ k hlt
   have hnat:intV p.after[i][k]=natV (p.after[i][k]).toNat:=by simp only[natV,Int.toNat_of_nonneg r1]
   rw[hnat] at hat
   simp only[↓X,↓Y,↓Q,S0,↓reduceIte,Nat.reduceEqDiff,Nat.reduceAdd,Int.reduceLT,Int.reduceLE,Int.reduceNeg,now w2,h1,h2,h3,h7,(hb1.ext hx).cell,Int.ofNat_lt,hia,hp.a.len_,hu,hsu.len_,hlt,hat]
   refine ret_bind' hx (ref20In (set:=set) (i:=(p.after[i][k]).toNat) hs (by omega)) λw3 hx3=>?_
   cases c:set.testBit (p.after[i][k]).toNat
   ·simp only[↓X,↓Y,↓Q,S0,↓reduceIte,Nat.reduceEqDiff,Nat.reduceAdd,Int.reduceLT,Int.reduceLE,Int.reduceNeg,now w3]
    have:openB p set i=false:=by
     simp only[openB,List.getD_eq_getElem?_getD,List.getElem?_eq_getElem hia,Option.getD_some,List.all_eq_false]
     exact⟨_,List.getElem_mem hlt,by simp[c]⟩
    exact⟨by rw[this],hx1.trans hx3⟩
   ·simp only[↓X,↓Y,↓Q,S0,↓reduceIte,Nat.reduceEqDiff,Nat.reduceAdd,Int.reduceLT,Int.reduceLE,Int.reduceNeg,now w3,h1,h2,h3,h7]
    refine⟨m - 1,by omega,k+1,?_⟩
    (repeat' apply And.intro)<;>first|rfl|assumption|omega|rw[wrap_succ hlt hsu.max_]|(intro j h hj;rcases Nat.lt_or_eq_of_le (Nat.le_of_lt_succ hj) with hh|rfl;exact hall j h hh;exact c)
  ·simp only[↓X,↓Y,↓Q,S0,↓reduceIte,Nat.reduceEqDiff,Nat.reduceAdd,Int.reduceLT,Int.reduceLE,Int.reduceNeg,now w2,h1,h2,h3,h7,(hb1.ext hx).cell,Int.ofNat_lt,hia,hp.a.len_,hu,hsu.len_,hlt]
   have:openB p set i=true:=by
    simp only[openB,List.getD_eq_getElem?_getD,List.getElem?_eq_getElem hia,Option.getD_some,List.all_eq_true]
    intro x hx
    obtain⟨j,hj,rfl⟩:=List.getElem_of_mem hx
    exact hall j hj (by omega)
   exact⟨by rw[this],hxx⟩
def siteEx:SiteD:=⟨[⟨1000⟩],[⟨0,500,0,0⟩],[⟨1000,0⟩],[⟨0,0,0,0⟩,⟨2,0,0,0⟩],1,[],[⟨0,4,0,0⟩,⟨0,4,0,0⟩,⟨1,4,0,0⟩]⟩
theorem appN{w:World}{B b cp:Nat}{s:Value}{l:List Nat}(x:Nat){k:Value→World→Prop}(hown:Own w B 3 1 s (l.map natC))(hb:Blk w b 3 (natC x))(hbound:l.length<1000000000000)(hB:B≤w.heap.size)
 (h:∀v' w',Now w'→Sa B w w'→Own w' B 3 1 v' ((l++[x]).map natC)→k v' w'):appX Tryz.prog 43 43 43 s (.slice (some ⟨b,0,none⟩) 1 cp) w k:=
 append_k (e:=3) (sz:=1) (by_:=8) (z:=.int .i64 0) (c:=natC) x KR KR rfl (by decide) (by decide) hown hb rfl (by simp[natC,intV,one_int]) hbound hB h
set_option maxHeartbeats 2000000
theorem row_ll{w:World}{b t n:Nat}{vs:List Value}{ll:List (List Int)}(hb:Blk w b t vs)(hn:n=ll.length)(hl:vs.length=ll.length)(hs:n≤1000)(h:∀i (h:i<ll.length),∃u,vs[i]? = some u∧Sl w w.heap.size none 1 u (ll[i].map intV)) :
 LLR w w.heap.size (.slice (some ⟨b,0,none⟩) n n) vs ll:=⟨row_sl hb (by omega) (by omega),hl,h⟩
section
variable{w:World}{B:Nat}{u:SiteVs}{s:SiteD}{wv sv av:Value}{vs:List Value}{l:List SrvV}{p:PlanD}
abbrev PlanK(w:World)(B:Nat)(sv av:Value)(vs:List Value)(p:PlanD):Prop:=SlK w B 4 (some 4) sv p.steps stepV∧SlWf av∧isSl av∧lenN av=p.after.length∧av.oneCell'=true∧cellsL av=[av]∧(∀w',Bl B w w'→PlanR w' B sv av vs p)
theorem PlanR.sk(h:PlanR w B sv av vs p)(hB:B≤w.heap.size):PlanK w B sv av vs p:=⟨h.s.k hB,h.a.v.wf,h.a.v.sl,by rw[h.a.v.len,h.a.len],h.a.v.one,cellsL_one h.a.v.one,λ_ hb=>⟨h.s.bl hb,⟨h.a.v.bl hb,h.a.len,λi hi=>let ⟨u,h1,h2⟩:=h.a.at_ i hi;⟨u,h1,h2.bl hb⟩⟩⟩⟩
theorem LLR.bl{w':World}{ll:List (List Int)}(h:LLR w B av vs ll)(hb:Bl B w w'):LLR w' B av vs ll:=⟨h.v.bl hb,h.len,λi hi=>let ⟨u,h1,h2⟩:=h.at_ i hi;⟨u,h1,h2.bl hb⟩⟩
end
end Go.Proofs.YtphciegaokdolaaGreatDoor
