
/- The document's answer, layer 20: In, With, Open; layer 12: Ints. -/
import Derived.Test.YtphciegaokdolaaGreatDoorPlan
namespace Go.Proofs.YtphciegaokdolaaGreatDoor
set_option linter.unusedSimpArgs false
set_option linter.unusedVariables false
open Go Go.RowKit
set_option maxRecDepth 100000
set_option linter.unusedSectionVars false
theorem ref20In{w:World}{set i:Nat}(hs:set<4096)(hi:i<62):Ret Tryz.prog 44 #[natV set,natV i] w (.bool (set.testBit i)):=by
 (refine callsV_of Tryz.func44 rfl (by kernel_rfl) (by kernel_rfl) ?_;rw[Tryz.results44])
 simp only[↓X,↓Y,↓Q,S0,↓reduceIte,Nat.reduceEqDiff,Nat.reduceAdd,Int.reduceLT,Int.reduceLE,Int.reduceNeg,now w,natV,intV]
 refine loopX_intro (λm g w'=>∃(k:Nat),k+m=i∧g 0=.int .i64 ((set / 2^k:Nat):Int)∧g 1=.int .i64 i∧g 5=.int .i64 k∧Ext w w') i (by kernel_rfl) ?_ ?_
 ·refine⟨0,by omega,?_⟩
  simp only[↓X,↓Y,↓Q,S0,↓reduceIte,Nat.reduceEqDiff,Nat.reduceAdd,Int.reduceLT,Int.reduceLE,Int.reduceNeg]
  (repeat' apply And.intro)<;>first|rfl|assumption|exact Ext.refl _|simp
 ·rintro m g w1 ⟨k,hk,h0,h1,h5,hx⟩
  have hle:set / 2^k≤set:=Nat.div_le_self _ _
  by_cases hlt:k<i
  ·simp only[↓X,↓Y,↓Q,S0,↓reduceIte,Nat.reduceEqDiff,Nat.reduceAdd,Int.reduceLT,Int.reduceLE,Int.reduceNeg,now w1,h0,h1,h5,Int.ofNat_lt,hlt]
   have e:(((set / 2^k:Nat):Int)).tdiv 2=((set / 2^(k+1):Nat):Int):=by
    rw[Nat.pow_succ,←Nat.div_div_eq_div_mul];rfl
   have hle2:set / 2^(k+1)≤set:=Nat.div_le_self _ _
   refine need (by decide) ?_
   simp only[↓X,↓Y,↓Q,S0,↓reduceIte,Nat.reduceEqDiff,Nat.reduceAdd,Int.reduceLT,Int.reduceLE,Int.reduceNeg,now w1,h0,h1,h5,e]
   refine⟨m - 1,by omega,k+1,?_⟩
   (repeat' apply And.intro)<;>first|rfl|assumption|omega|rw[wrap_succ hlt (by omega)]|rw[wrap_nat (by omega)]
  ·have hki:k=i:=by omega
   subst hki
   have e:(((set / 2^k:Nat):Int)).tmod 2=((set / 2^k % 2:Nat):Int):=rfl
   simp only[↓X,↓Y,↓Q,S0,↓reduceIte,Nat.reduceEqDiff,Nat.reduceAdd,Int.reduceLT,Int.reduceLE,Int.reduceNeg,now w1,h0,h1,h5,Int.ofNat_lt,hlt]
   refine need (by decide) ?_
   simp only[↓X,↓Y,↓Q,S0,↓reduceIte,Nat.reduceEqDiff,Nat.reduceAdd,Int.reduceLT,Int.reduceLE,Int.reduceNeg,now w1,e]
   refine⟨?_,hx⟩
   rw[Nat.testBit_eq_decide_div_mod_eq]
   generalize set / 2^k=y
   congr 1
   rw[Bool.eq_iff_iff]
   simp
   omega
theorem ref20With{w:World}{set i:Nat}(hs:set<4096)(hi:i<61):Ret Tryz.prog 69 #[natV set,natV i] w (natV (set+2^i)):=by
 (refine callsV_of Tryz.func69 rfl (by kernel_rfl) (by kernel_rfl) ?_;rw[Tryz.results69])
 simp only[↓X,↓Y,↓Q,S0,↓reduceIte,Nat.reduceEqDiff,Nat.reduceAdd,Int.reduceLT,Int.reduceLE,Int.reduceNeg,now w,natV,intV]
 refine loopX_intro (λm g w'=>∃(k:Nat),k+m=i∧g 5=.int .i64 ((2^k:Nat):Int)∧g 0=.int .i64 set∧g 1=.int .i64 i∧g 6=.int .i64 k∧Ext w w') i (by kernel_rfl) ?_ ?_
 ·refine⟨0,by omega,?_⟩
  simp only[↓X,↓Y,↓Q,S0,↓reduceIte,Nat.reduceEqDiff,Nat.reduceAdd,Int.reduceLT,Int.reduceLE,Int.reduceNeg]
  (repeat' apply And.intro)<;>first|rfl|assumption|exact Ext.refl _|simp
 ·rintro m g w1 ⟨k,hk,h5,h0,h1,h6,hx⟩
  have hp:2^k≤2^i:=Nat.pow_le_pow_right (by decide) (by omega)
  have hp2:2^i<2^61:=Nat.pow_lt_pow_right (by decide) hi
  by_cases hlt:k<i
  ·simp only[↓X,↓Y,↓Q,S0,↓reduceIte,Nat.reduceEqDiff,Nat.reduceAdd,Int.reduceLT,Int.reduceLE,Int.reduceNeg,now w1,h0,h1,h5,h6,Int.ofNat_lt,hlt]
   refine⟨m - 1,by omega,k+1,?_⟩
   have e:(2:Int) * ((2^k:Nat):Int)=((2^(k+1):Nat):Int):=by rw[Nat.pow_succ];omega
   (repeat' apply And.intro)<;>first|rfl|assumption|omega|rw[wrap_succ hlt (by omega)]|rw[e,wrap_nat (by omega)]
  ·have hki:k=i:=by omega
   subst hki
   have e:(set:Int)+((2^k:Nat):Int)=((set+2^k:Nat):Int):=by omega
   simp only[↓X,↓Y,↓Q,S0,↓reduceIte,Nat.reduceEqDiff,Nat.reduceAdd,Int.reduceLT,Int.reduceLE,Int.reduceNeg,now w1,h0,h1,h5,h6,Int.ofNat_lt,hlt,e]
   rw[wrap_nat (by omega)]
   exact⟨rfl,hx⟩
end Go.Proofs.YtphciegaokdolaaGreatDoor
