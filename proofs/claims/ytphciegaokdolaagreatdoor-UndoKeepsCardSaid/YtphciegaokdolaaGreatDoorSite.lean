/- The layer site: Valid. -/
import Derived.Test.YtphciegaokdolaaGreatDoorLib1
import Derived.Test.YtphciegaokdolaaGreatDoorOwn
import Derived.Test.YtphciegaokdolaaGreatDoorDom
namespace Go.Proofs.YtphciegaokdolaaGreatDoor
set_option linter.unusedSimpArgs false
set_option linter.unusedVariables false
open Go
set_option maxRecDepth 100000
set_option linter.unusedSectionVars false
theorem siteBetween{w:World}{a b c:Int}:Ret Tryz.prog 153 #[intV a,intV b,intV c] w (.bool (btw a b c)):=by
 (refine callsV_of Tryz.func153 rfl (by kernel_rfl) (by kernel_rfl) ?_;rw[Tryz.results153])
 unfold intV
 cases h:decide (b≤a)<;>simp only[↓X,↓Y,↓Q,S0,↓reduceIte,Nat.reduceEqDiff,Nat.reduceAdd,Int.reduceLT,Int.reduceLE,Int.reduceNeg,now w,h]<;>exact⟨by simp[btw,h],Ext.refl w⟩
theorem siteIndex{w:World}{a b:Int}:Ret Tryz.prog 151 #[intV a,intV b] w (.bool (idx a b)):=by
 (refine callsV_of Tryz.func151 rfl (by kernel_rfl) (by kernel_rfl) ?_;rw[Tryz.results151])
 unfold intV
 cases h:decide (0≤a)<;>simp only[↓X,↓Y,↓Q,S0,↓reduceIte,Nat.reduceEqDiff,Nat.reduceAdd,Int.reduceLT,Int.reduceLE,Int.reduceNeg,now w,h]<;>exact⟨by simp[idx,h],Ext.refl w⟩
def minL:Int→List Int→Int
 |a,[]=>a
 |a,b::r=>minL (if b<a then b else a) r
def maxL:Int→List Int→Int
 |a,[]=>a
 |a,b::r=>maxL (if b > a then b else a) r
theorem minL_ge:∀(l:List Int) (a b:Int),b≤minL a l↔b≤a∧∀x∈l,b≤x
 |[],a,b=>by simp[minL]
 |c::r,a,b=>by
  rw[minL,minL_ge r]
  simp only[List.mem_cons,forall_eq_or_imp]
  constructor
  ·rintro⟨h1,h2⟩;split at h1<;>exact⟨by omega,by omega,h2⟩
  ·rintro⟨h1,h2,h3⟩;exact⟨by split<;>omega,h3⟩
theorem maxL_le:∀(l:List Int) (a b:Int),maxL a l≤b↔a≤b∧∀x∈l,x≤b
 |[],a,b=>by simp[maxL]
 |c::r,a,b=>by
  rw[maxL,maxL_le r]
  simp only[List.mem_cons,forall_eq_or_imp]
  constructor
  ·rintro⟨h1,h2⟩;split at h1<;>exact⟨by omega,by omega,h2⟩
  ·rintro⟨h1,h2,h3⟩;exact⟨by split<;>omega,h3⟩
theorem slicesMin{w:World}{B:Nat}{v:Value}{a:Int}{l:List Int}(hB:B≤w.heap.size)(hs:Sl w B none 1 v ((a::l).map intV)):Ret Tryz.prog 193 #[v] w (intV (minL a l)):=by
 (refine callsV_of Tryz.func193 rfl (by kernel_rfl) (by kernel_rfl) ?_;rw[Tryz.results193])
 have hmax:=hs.max_
 simp only[List.length_cons] at hmax
 simp only[↓X,↓Y,↓Q,S0,↓reduceIte,Nat.reduceEqDiff,Nat.reduceAdd,Int.reduceLT,Int.reduceLE,Int.reduceNeg,now w,hs.len_,Int.ofNat_lt,List.length_cons,decide_eq_false (show ¬((l.length+1:Nat):Int)<1 by omega),eq_true (show(0:Int)<((l.length+1:Nat):Int) by omega),show(0:Int).toNat=0 from rfl,show(0:Int)≤0 from Int.le_refl 0,hs.at_ 0 (Nat.succ_pos _),List.getElem_cons_zero]
 refine loopX_intro (λm g w'=>∃(k:Nat) (c:Int),k+m=l.length∧g 4=.int .i64 (k+1:Nat)∧g 0=v∧g 3=intV c∧minL c (l.drop k)=minL a l∧Ext w w') l.length (by kernel_rfl) ?_ ?_
 ·refine⟨0,a,by omega,?_⟩
  simp only[↓X,↓Y,↓Q,S0,↓reduceIte,Nat.reduceEqDiff,Nat.reduceAdd,Int.reduceLT,Int.reduceLE,Int.reduceNeg]
  exact⟨rfl,rfl,Ext.refl w⟩
 ·rintro m g w1 ⟨k,c,hk,h4,h0,h3,hm,hx⟩
  by_cases hlt:k<l.length
  ·have hat:=(hs.ext hx hB).at_ (k+1) (by simp;omega)
   simp only[List.getElem_cons_succ] at hat
   simp only[↓X,↓Y,↓Q,S0,↓reduceIte,Nat.reduceEqDiff,Nat.reduceAdd,Int.reduceLT,Int.reduceLE,Int.reduceNeg,now w1,h4,h3,h0,intV,Int.ofNat_lt,List.length_cons,Nat.add_lt_add_iff_right,hlt,hs.len_,hat]
   refine⟨m - 1,by omega,k+1,if l[k]<c then l[k] else c,by omega,by rw[wrap_succ (k:=k+1) (n:=l.length+1) (by omega) hmax],rfl,?_,hx⟩
   rw[←hm,List.drop_eq_getElem_cons hlt,minL]
  ·simp only[↓X,↓Y,↓Q,S0,↓reduceIte,Nat.reduceEqDiff,Nat.reduceAdd,Int.reduceLT,Int.reduceLE,Int.reduceNeg,now w1,h4,h3,h0,intV,Int.ofNat_lt,List.length_cons,Nat.add_lt_add_iff_right,hlt,hs.len_]
   rw[List.drop_eq_nil_of_le (by omega)] at hm
   exact⟨by rw[←hm];rfl,hx⟩
theorem slicesMax{w:World}{B:Nat}{v:Value}{a:Int}{l:List Int}(hB:B≤w.heap.size)(hs:Sl w B none 1 v ((a::l).map intV)):Ret Tryz.prog 194 #[v] w (intV (maxL a l)):=by
 (refine callsV_of Tryz.func194 rfl (by kernel_rfl) (by kernel_rfl) ?_;rw[Tryz.results194])
 have hmax:=hs.max_
 simp only[List.length_cons] at hmax
 simp only[↓X,↓Y,↓Q,S0,↓reduceIte,Nat.reduceEqDiff,Nat.reduceAdd,Int.reduceLT,Int.reduceLE,Int.reduceNeg,now w,hs.len_,Int.ofNat_lt,List.length_cons,decide_eq_false (show ¬((l.length+1:Nat):Int)<1 by omega),eq_true (show(0:Int)<((l.length+1:Nat):Int) by omega),show(0:Int).toNat=0 from rfl,show(0:Int)≤0 from Int.le_refl 0,hs.at_ 0 (Nat.succ_pos _),List.getElem_cons_zero]
 refine loopX_intro (λm g w'=>∃(k:Nat) (c:Int),k+m=l.length∧g 4=.int .i64 (k+1:Nat)∧g 0=v∧g 3=intV c∧maxL c (l.drop k)=maxL a l∧Ext w w') l.length (by kernel_rfl) ?_ ?_
 ·refine⟨0,a,by omega,?_⟩
  simp only[↓X,↓Y,↓Q,S0,↓reduceIte,Nat.reduceEqDiff,Nat.reduceAdd,Int.reduceLT,Int.reduceLE,Int.reduceNeg]
  exact⟨rfl,rfl,Ext.refl w⟩
 ·rintro m g w1 ⟨k,c,hk,h4,h0,h3,hm,hx⟩
  by_cases hlt:k<l.length
  ·have hat:=(hs.ext hx hB).at_ (k+1) (by simp;omega)
   simp only[List.getElem_cons_succ] at hat
   simp only[↓X,↓Y,↓Q,S0,↓reduceIte,Nat.reduceEqDiff,Nat.reduceAdd,Int.reduceLT,Int.reduceLE,Int.reduceNeg,now w1,h4,h3,h0,intV,Int.ofNat_lt,List.length_cons,Nat.add_lt_add_iff_right,hlt,hs.len_,hat]
   refine⟨m - 1,by omega,k+1,if l[k] > c then l[k] else c,by omega,by rw[wrap_succ (k:=k+1) (n:=l.length+1) (by omega) hmax],rfl,?_,hx⟩
   rw[←hm,List.drop_eq_getElem_cons hlt,maxL]
  ·simp only[↓X,↓Y,↓Q,S0,↓reduceIte,Nat.reduceEqDiff,Nat.reduceAdd,Int.reduceLT,Int.reduceLE,Int.reduceNeg,now w1,h4,h3,h0,intV,Int.ofNat_lt,List.length_cons,Nat.add_lt_add_iff_right,hlt,hs.len_]
   rw[List.drop_eq_nil_of_le (by omega)] at hm
   exact⟨by rw[←hm];rfl,hx⟩
theorem siteNumbers{w:World}{B:Nat}{v:Value}{a:Int}{l:List Int}(hB:B≤w.heap.size)(hs:Sl w B none 1 v ((a::l).map intV)):Ret Tryz.prog 149 #[v] w (.bool ((a::l).all num)):=by
 (refine callsV_of Tryz.func149 rfl (by kernel_rfl) (by kernel_rfl) ?_;rw[Tryz.results149])
 have spec:(a::l).all num=(decide (0≤minL a l)&&decide (maxL a l≤1000000)):=by
  rw[Bool.eq_iff_iff]
  simp only[List.all_eq_true,num,btw,Bool.and_eq_true,decide_eq_true_eq,minL_ge,maxL_le,List.mem_cons,forall_eq_or_imp]
  constructor
  ·rintro⟨⟨h1,h2⟩,h3⟩;exact⟨⟨h1,λx hx=>(h3 x hx).1⟩,h2,λx hx=>(h3 x hx).2⟩
  ·rintro⟨⟨h1,h2⟩,h3,h4⟩;exact⟨⟨h1,h3⟩,λx hx=>⟨h2 x hx,h4 x hx⟩⟩
 simp only[↓X,↓Y,↓Q,S0,↓reduceIte,Nat.reduceEqDiff,Nat.reduceAdd,Int.reduceLT,Int.reduceLE,Int.reduceNeg,now w]
 refine ret_bind' (Ext.refl w) (slicesMin hB hs) λw1 hx1=>?_
 unfold intV
 cases h:decide (0≤minL a l) with
 |false=>
  simp only[↓X,↓Y,↓Q,S0,↓reduceIte,Nat.reduceEqDiff,Nat.reduceAdd,Int.reduceLT,Int.reduceLE,Int.reduceNeg,now w1,h]
  exact⟨by rw[spec,h];rfl,hx1⟩
 |true=>
  simp only[↓X,↓Y,↓Q,S0,↓reduceIte,Nat.reduceEqDiff,Nat.reduceAdd,Int.reduceLT,Int.reduceLE,Int.reduceNeg,now w1,h]
  refine ret_bind' hx1 (slicesMax (by have:=hx1.size;omega) (hs.ext hx1 hB)) λw2 hx2=>?_
  unfold intV
  simp only[↓X,↓Y,↓Q,S0,↓reduceIte,Nat.reduceEqDiff,Nat.reduceAdd,Int.reduceLT,Int.reduceLE,Int.reduceNeg,now w2]
  exact⟨by rw[spec,h];rfl,hx2⟩
theorem siteValid1{w:World}{x:FeedD}:Ret Tryz.prog 148 #[feedV x] w (.bool (!feedB x)):=by
 (refine callsV_of Tryz.func148 rfl (by kernel_rfl) (by kernel_rfl) ?_;rw[Tryz.results148])
 simp only[↓X,↓Y,↓Q,S0,↓reduceIte,Nat.reduceEqDiff,Nat.reduceAdd,Int.reduceLT,Int.reduceLE,Int.reduceNeg,now w,feedV,intV]
 refine alloc_intro λb1 w1 hb1 hx1 _=>?_
 simp only[↓X,↓Y,↓Q,S0,↓reduceIte,Nat.reduceEqDiff,Nat.reduceAdd,Int.reduceLT,Int.reduceLE,Int.reduceNeg,now w1,hb1.cell,idxOk,flatP,cellsL,List.length_cons,List.length_nil,Nat.one_mul,Nat.reduceMul,Nat.reduceLeDiff,Nat.reduceLT]
 refine row_intro λb2 w2 hb2 hx2 _=>?_
 simp only[↓X,↓Y,↓Q,S0,↓reduceIte,Nat.reduceEqDiff,Nat.reduceAdd,Int.reduceLT,Int.reduceLE,Int.reduceNeg,now w2]
 refine ret_bind' (hx1.trans hx2) (siteNumbers (l:=[]) (Nat.le_refl _) (row_sl hb2 rfl (by simp))) λw3 hx3=>?_
 simp only[↓X,↓Y,↓Q,S0,↓reduceIte,Nat.reduceEqDiff,Nat.reduceAdd,Int.reduceLT,Int.reduceLE,Int.reduceNeg,now w3]
 exact⟨by simp[feedB],hx3⟩
structure SiteVs where
 f:Value
 b:Value
 l:Value
 r:Value
 k:Value
 h:Value
def siteC(u:SiteVs)(s:SiteD):List Value:=[u.f,u.b,u.l,u.r,intV s.switches,u.k,u.h]
structure SiteR (w:World) (B:Nat) (u:SiteVs) (s:SiteD):Prop where
 f:Sl w B (some 1) 1 u.f (s.feeds.map feedV)
 b:Sl w B (some 4) 4 u.b (s.breakers.map breakerV)
 l:Sl w B (some 2) 2 u.l (s.loops.map loopV)
 r:Sl w B (some 4) 4 u.r (s.racks.map rackV)
 k:Sl w B (some 3) 3 u.k (s.links.map linkV)
 h:Sl w B (some 4) 4 u.h (s.hosts.map hostV)
theorem SiteR.ext{w w':World}{B:Nat}{u:SiteVs}{s:SiteD}(h:SiteR w B u s)(hx:Ext w w')(hB:B≤w.heap.size):SiteR w' B u s:=
 ⟨h.f.ext hx hB,h.b.ext hx hB,h.l.ext hx hB,h.r.ext hx hB,h.k.ext hx hB,h.h.ext hx hB⟩
theorem siteSizes{w:World}{B:Nat}{u:SiteVs}{s:SiteD}(hs:SiteR w B u s):Ret Tryz.prog 147 #[.agg (siteC u s).toArray] w (.bool (sizesB s)):=by
 (refine callsV_of Tryz.func147 rfl (by kernel_rfl) (by kernel_rfl) ?_;rw[Tryz.results147])
 simp only[↓X,↓Y,↓Q,S0,↓reduceIte,Nat.reduceEqDiff,Nat.reduceAdd,Int.reduceLT,Int.reduceLE,Int.reduceNeg,now w,siteC]
 refine alloc_intro λb1 w1 hb1 hx1 _=>?_
 simp only[↓X,↓Y,↓Q,S0,↓reduceIte,Nat.reduceEqDiff,Nat.reduceAdd,Int.reduceLT,Int.reduceLE,Int.reduceNeg,now w1,hb1.cell,hs.f.len_]
 refine ret_bind' (Ext.refl w1) (siteBetween) λw2 hx2=>?_
 cases h2:btw s.feeds.length 1 4
 ·simp only[↓X,↓Y,↓Q,S0,↓reduceIte,Nat.reduceEqDiff,Nat.reduceAdd,Int.reduceLT,Int.reduceLE,Int.reduceNeg,now w2,h2,(hb1.ext hx2).cell,hs.b.len_]
  exact⟨by simp[sizesB,h2],hx1.trans hx2⟩
 simp only[↓X,↓Y,↓Q,S0,↓reduceIte,Nat.reduceEqDiff,Nat.reduceAdd,Int.reduceLT,Int.reduceLE,Int.reduceNeg,now w2,h2,(hb1.ext hx2).cell,hs.b.len_]
 refine ret_bind' hx2 (siteBetween) λw3 hx3=>?_
 cases h3:btw s.breakers.length 1 8
 ·simp only[↓X,↓Y,↓Q,S0,↓reduceIte,Nat.reduceEqDiff,Nat.reduceAdd,Int.reduceLT,Int.reduceLE,Int.reduceNeg,now w3,h3,(hb1.ext hx3).cell,hs.l.len_]
  exact⟨by simp[sizesB,h3],hx1.trans hx3⟩
 simp only[↓X,↓Y,↓Q,S0,↓reduceIte,Nat.reduceEqDiff,Nat.reduceAdd,Int.reduceLT,Int.reduceLE,Int.reduceNeg,now w3,h3,(hb1.ext hx3).cell,hs.l.len_]
 refine ret_bind' hx3 (siteBetween) λw4 hx4=>?_
 cases h4:btw s.loops.length 1 4
 ·simp only[↓X,↓Y,↓Q,S0,↓reduceIte,Nat.reduceEqDiff,Nat.reduceAdd,Int.reduceLT,Int.reduceLE,Int.reduceNeg,now w4,h4,(hb1.ext hx4).cell,intV]
  exact⟨by simp[sizesB,h4],hx1.trans hx4⟩
 simp only[↓X,↓Y,↓Q,S0,↓reduceIte,Nat.reduceEqDiff,Nat.reduceAdd,Int.reduceLT,Int.reduceLE,Int.reduceNeg,now w4,h4,(hb1.ext hx4).cell,intV]
 refine ret_bind' hx4 (siteBetween) λw5 hx5=>?_
 cases h5:btw s.switches 1 8
 ·simp only[↓X,↓Y,↓Q,S0,↓reduceIte,Nat.reduceEqDiff,Nat.reduceAdd,Int.reduceLT,Int.reduceLE,Int.reduceNeg,now w5,h5,(hb1.ext hx5).cell,hs.r.len_]
  exact⟨by simp[sizesB,h5],hx1.trans hx5⟩
 simp only[↓X,↓Y,↓Q,S0,↓reduceIte,Nat.reduceEqDiff,Nat.reduceAdd,Int.reduceLT,Int.reduceLE,Int.reduceNeg,now w5,h5,(hb1.ext hx5).cell,hs.r.len_]
 refine ret_bind' hx5 (siteBetween) λw6 hx6=>?_
 cases h6:btw s.racks.length 1 8
 ·simp only[↓X,↓Y,↓Q,S0,↓reduceIte,Nat.reduceEqDiff,Nat.reduceAdd,Int.reduceLT,Int.reduceLE,Int.reduceNeg,now w6,h6,(hb1.ext hx6).cell,hs.k.len_]
  exact⟨by simp[sizesB,h6],hx1.trans hx6⟩
 simp only[↓X,↓Y,↓Q,S0,↓reduceIte,Nat.reduceEqDiff,Nat.reduceAdd,Int.reduceLT,Int.reduceLE,Int.reduceNeg,now w6,h6,(hb1.ext hx6).cell,hs.k.len_]
 cases h7:decide ((s.links.length:Int)≤16)
 ·simp only[↓X,↓Y,↓Q,S0,↓reduceIte,Nat.reduceEqDiff,Nat.reduceAdd,Int.reduceLT,Int.reduceLE,Int.reduceNeg,now w6,h7,(hb1.ext hx6).cell,hs.h.len_]
  exact⟨by simp[sizesB,h7],hx1.trans hx6⟩
 simp only[↓X,↓Y,↓Q,S0,↓reduceIte,Nat.reduceEqDiff,Nat.reduceAdd,Int.reduceLT,Int.reduceLE,Int.reduceNeg,now w6,h7,(hb1.ext hx6).cell,hs.h.len_]
 refine ret_bind' hx6 siteBetween λw8 hx8=>?_
 simp only[↓X,↓Y,↓Q,S0,↓reduceIte,Nat.reduceEqDiff,Nat.reduceAdd,Int.reduceLT,Int.reduceLE,Int.reduceNeg,now w8]
 exact⟨by simp only[sizesB,h2,h3,h4,h5,h6,h7,Bool.true_and],hx1.trans hx8⟩
section
variable{w:World}{B b:Nat}{u:SiteVs}{s:SiteD}(hs:SiteR w B u s)(hb:Blk w b 29 (siteC u s))
include hs hb
theorem siteValid2{x:BreakerD}:Ret Tryz.prog 150 #[breakerV x,.pointer (some ⟨b,0,none⟩)] w (.bool (!breakerB s x)):=by
 (refine callsV_of Tryz.func150 rfl (by kernel_rfl) (by kernel_rfl) ?_;rw[Tryz.results150])
 simp only[↓X,↓Y,↓Q,S0,↓reduceIte,Nat.reduceEqDiff,Nat.reduceAdd,Int.reduceLT,Int.reduceLE,Int.reduceNeg,now w,breakerV,intV]
 refine alloc_intro λb1 w1 hb1 hx1 _=>?_
 replace hb:=hb.ext hx1
 simp only[↓X,↓Y,↓Q,S0,↓reduceIte,Nat.reduceEqDiff,Nat.reduceAdd,Int.reduceLT,Int.reduceLE,Int.reduceNeg,now w1,hb1.cell,hb.cell,siteC,hs.b.len_,hs.f.len_]
 refine ret_bind' (Ext.refl w1) (siteIndex) λw2 hx2=>?_
 cases h2:idx x.feed s.feeds.length
 ·simp only[↓X,↓Y,↓Q,S0,↓reduceIte,Nat.reduceEqDiff,Nat.reduceAdd,Int.reduceLT,Int.reduceLE,Int.reduceNeg,now w2,h2,(hb1.ext hx2).cell,idxOk,flatP,cellsL,List.length_cons,List.length_nil,Nat.reduceMul,Nat.reduceLeDiff,Nat.reduceLT]
  exact⟨by simp[breakerB,h2],hx1.trans hx2⟩
 simp only[↓X,↓Y,↓Q,S0,↓reduceIte,Nat.reduceEqDiff,Nat.reduceAdd,Int.reduceLT,Int.reduceLE,Int.reduceNeg,now w2,h2,(hb1.ext hx2).cell,idxOk,flatP,cellsL,List.length_cons,List.length_nil,Nat.reduceMul,Nat.reduceLeDiff,Nat.reduceLT]
 refine row_intro λb3 w3 hb3 hx3 _=>?_
 simp only[↓X,↓Y,↓Q,S0,↓reduceIte,Nat.reduceEqDiff,Nat.reduceAdd,Int.reduceLT,Int.reduceLE,Int.reduceNeg,now w3]
 refine ret_bind' (hx2.trans hx3) (siteNumbers (l:=[_,_]) (Nat.le_refl _) (row_sl hb3 rfl (by simp))) λw4 hx4=>?_
 simp only[↓X,↓Y,↓Q,S0,↓reduceIte,Nat.reduceEqDiff,Nat.reduceAdd,Int.reduceLT,Int.reduceLE,Int.reduceNeg,now w4]
 exact⟨by simp[breakerB,h2,Bool.and_assoc],hx1.trans hx4⟩
omit hs hb in
theorem siteValid3{x:LoopD}:Ret Tryz.prog 152 #[loopV x] w (.bool (!loopB x)):=by
 (refine callsV_of Tryz.func152 rfl (by kernel_rfl) (by kernel_rfl) ?_;rw[Tryz.results152])
 simp only[↓X,↓Y,↓Q,S0,↓reduceIte,Nat.reduceEqDiff,Nat.reduceAdd,Int.reduceLT,Int.reduceLE,Int.reduceNeg,now w,loopV,intV]
 refine alloc_intro λb1 w1 hb1 hx1 _=>?_
 simp only[↓X,↓Y,↓Q,S0,↓reduceIte,Nat.reduceEqDiff,Nat.reduceAdd,Int.reduceLT,Int.reduceLE,Int.reduceNeg,now w1,hb1.cell,idxOk,flatP,cellsL,List.length_cons,List.length_nil,Nat.reduceMul,Nat.reduceLeDiff,Nat.reduceLT]
 refine row_intro λb3 w3 hb3 hx3 _=>?_
 simp only[↓X,↓Y,↓Q,S0,↓reduceIte,Nat.reduceEqDiff,Nat.reduceAdd,Int.reduceLT,Int.reduceLE,Int.reduceNeg,now w3]
 refine ret_bind' hx3 (siteNumbers (l:=[]) (Nat.le_refl _) (row_sl hb3 rfl (by simp))) λw4 hx4=>?_
 cases h4:[x.carry].all num
 ·simp only[↓X,↓Y,↓Q,S0,↓reduceIte,Nat.reduceEqDiff,Nat.reduceAdd,Int.reduceLT,Int.reduceLE,Int.reduceNeg,now w4,h4,(hb1.ext hx4).cell]
  exact⟨by simp at h4;simp[loopB,h4],hx1.trans hx4⟩
 simp only[↓X,↓Y,↓Q,S0,↓reduceIte,Nat.reduceEqDiff,Nat.reduceAdd,Int.reduceLT,Int.reduceLE,Int.reduceNeg,now w4,h4,(hb1.ext hx4).cell]
 refine ret_bind' hx4 siteBetween λw5 hx5=>?_
 simp only[↓X,↓Y,↓Q,S0,↓reduceIte,Nat.reduceEqDiff,Nat.reduceAdd,Int.reduceLT,Int.reduceLE,Int.reduceNeg,now w5]
 exact⟨by simp at h4;simp[loopB,h4],hx1.trans hx5⟩
theorem siteValid4{x:RackD}:Ret Tryz.prog 154 #[rackV x,.pointer (some ⟨b,0,none⟩)] w (.bool (!rackB s x)):=by
 (refine callsV_of Tryz.func154 rfl (by kernel_rfl) (by kernel_rfl) ?_;rw[Tryz.results154])
 simp only[↓X,↓Y,↓Q,S0,↓reduceIte,Nat.reduceEqDiff,Nat.reduceAdd,Int.reduceLT,Int.reduceLE,Int.reduceNeg,now w,rackV,intV]
 refine alloc_intro λb1 w1 hb1 hx1 _=>?_
 replace hb:=hb.ext hx1
 simp only[↓X,↓Y,↓Q,S0,↓reduceIte,Nat.reduceEqDiff,Nat.reduceAdd,Int.reduceLT,Int.reduceLE,Int.reduceNeg,now w1,hb1.cell]
 refine ret_bind' (Ext.refl w1) (siteIndex) λw2 hx2=>?_
 cases h2:idx x.row 4
 ·simp only[↓X,↓Y,↓Q,S0,↓reduceIte,Nat.reduceEqDiff,Nat.reduceAdd,Int.reduceLT,Int.reduceLE,Int.reduceNeg,now w2,h2,(hb1.ext hx2).cell,(hb.ext hx2).cell,siteC,hs.b.len_]
  exact⟨by simp[rackB,h2],hx1.trans hx2⟩
 simp only[↓X,↓Y,↓Q,S0,↓reduceIte,Nat.reduceEqDiff,Nat.reduceAdd,Int.reduceLT,Int.reduceLE,Int.reduceNeg,now w2,h2,(hb1.ext hx2).cell,(hb.ext hx2).cell,siteC,hs.b.len_]
 refine ret_bind' hx2 (siteIndex) λw3 hx3=>?_
 cases h3:idx x.breaker s.breakers.length
 ·simp only[↓X,↓Y,↓Q,S0,↓reduceIte,Nat.reduceEqDiff,Nat.reduceAdd,Int.reduceLT,Int.reduceLE,Int.reduceNeg,now w3,h3,(hb1.ext hx3).cell,(hb.ext hx3).cell,siteC,hs.l.len_]
  exact⟨by simp[rackB,h3],hx1.trans hx3⟩
 simp only[↓X,↓Y,↓Q,S0,↓reduceIte,Nat.reduceEqDiff,Nat.reduceAdd,Int.reduceLT,Int.reduceLE,Int.reduceNeg,now w3,h3,(hb1.ext hx3).cell,(hb.ext hx3).cell,siteC,hs.l.len_]
 refine ret_bind' hx3 (siteIndex) λw4 hx4=>?_
 cases h4:idx x.loop s.loops.length
 ·simp only[↓X,↓Y,↓Q,S0,↓reduceIte,Nat.reduceEqDiff,Nat.reduceAdd,Int.reduceLT,Int.reduceLE,Int.reduceNeg,now w4,h4,(hb1.ext hx4).cell,(hb.ext hx4).cell,siteC,intV]
  exact⟨by simp[rackB,h4],hx1.trans hx4⟩
 simp only[↓X,↓Y,↓Q,S0,↓reduceIte,Nat.reduceEqDiff,Nat.reduceAdd,Int.reduceLT,Int.reduceLE,Int.reduceNeg,now w4,h4,(hb1.ext hx4).cell,(hb.ext hx4).cell,siteC,intV]
 refine ret_bind' hx4 siteIndex λw5 hx5=>?_
 simp only[↓X,↓Y,↓Q,S0,↓reduceIte,Nat.reduceEqDiff,Nat.reduceAdd,Int.reduceLT,Int.reduceLE,Int.reduceNeg,now w5]
 exact⟨by simp[rackB,h2,h3,h4],hx1.trans hx5⟩
theorem siteValid5{x:LinkD}:Ret Tryz.prog 155 #[linkV x,.pointer (some ⟨b,0,none⟩)] w (.bool (!linkB s x)):=by
 (refine callsV_of Tryz.func155 rfl (by kernel_rfl) (by kernel_rfl) ?_;rw[Tryz.results155])
 simp only[↓X,↓Y,↓Q,S0,↓reduceIte,Nat.reduceEqDiff,Nat.reduceAdd,Int.reduceLT,Int.reduceLE,Int.reduceNeg,now w,linkV,intV]
 refine alloc_intro λb1 w1 hb1 hx1 _=>?_
 replace hb:=hb.ext hx1
 simp only[↓X,↓Y,↓Q,S0,↓reduceIte,Nat.reduceEqDiff,Nat.reduceAdd,Int.reduceLT,Int.reduceLE,Int.reduceNeg,now w1,hb1.cell,hb.cell,siteC,intV]
 refine ret_bind' (Ext.refl w1) (siteIndex) λw2 hx2=>?_
 cases h2:idx x.a s.switches
 ·simp only[↓X,↓Y,↓Q,S0,↓reduceIte,Nat.reduceEqDiff,Nat.reduceAdd,Int.reduceLT,Int.reduceLE,Int.reduceNeg,now w2,h2,(hb1.ext hx2).cell,(hb.ext hx2).cell,siteC,intV]
  exact⟨by simp[linkB,h2],hx1.trans hx2⟩
 simp only[↓X,↓Y,↓Q,S0,↓reduceIte,Nat.reduceEqDiff,Nat.reduceAdd,Int.reduceLT,Int.reduceLE,Int.reduceNeg,now w2,h2,(hb1.ext hx2).cell,(hb.ext hx2).cell,siteC,intV]
 refine ret_bind' hx2 (siteIndex) λw3 hx3=>?_
 cases h3:idx x.b s.switches
 ·simp only[↓X,↓Y,↓Q,S0,↓reduceIte,Nat.reduceEqDiff,Nat.reduceAdd,Int.reduceLT,Int.reduceLE,Int.reduceNeg,now w3,h3,(hb1.ext hx3).cell,(hb.ext hx3).cell,siteC,intV]
  exact⟨by simp[linkB,h3],hx1.trans hx3⟩
 simp only[↓X,↓Y,↓Q,S0,↓reduceIte,Nat.reduceEqDiff,Nat.reduceAdd,Int.reduceLT,Int.reduceLE,Int.reduceNeg,now w3,h3,(hb1.ext hx3).cell,(hb.ext hx3).cell,siteC,intV]
 cases h4:x.a == x.b
 ·simp only[↓X,↓Y,↓Q,S0,↓reduceIte,Nat.reduceEqDiff,Nat.reduceAdd,Int.reduceLT,Int.reduceLE,Int.reduceNeg,now w3,h4,(hb1.ext hx3).cell]
  refine ret_bind' hx3 siteBetween λw5 hx5=>?_
  simp only[↓X,↓Y,↓Q,S0,↓reduceIte,Nat.reduceEqDiff,Nat.reduceAdd,Int.reduceLT,Int.reduceLE,Int.reduceNeg,now w5]
  exact⟨by simp[linkB,h2,h3,h4],hx1.trans hx5⟩
 ·simp only[↓X,↓Y,↓Q,S0,↓reduceIte,Nat.reduceEqDiff,Nat.reduceAdd,Int.reduceLT,Int.reduceLE,Int.reduceNeg,now w3,h4,(hb1.ext hx3).cell]
  exact⟨by simp[linkB,h4],hx1.trans hx3⟩
theorem siteValid6{x:HostD}:Ret Tryz.prog 156 #[hostV x,.pointer (some ⟨b,0,none⟩)] w (.bool (!hostB s x)):=by
 (refine callsV_of Tryz.func156 rfl (by kernel_rfl) (by kernel_rfl) ?_;rw[Tryz.results156])
 simp only[↓X,↓Y,↓Q,S0,↓reduceIte,Nat.reduceEqDiff,Nat.reduceAdd,Int.reduceLT,Int.reduceLE,Int.reduceNeg,now w,hostV,intV]
 refine alloc_intro λb1 w1 hb1 hx1 _=>?_
 replace hb:=hb.ext hx1
 simp only[↓X,↓Y,↓Q,S0,↓reduceIte,Nat.reduceEqDiff,Nat.reduceAdd,Int.reduceLT,Int.reduceLE,Int.reduceNeg,now w1,hb1.cell,hb.cell,siteC,hs.r.len_]
 refine ret_bind' (Ext.refl w1) (siteIndex) λw2 hx2=>?_
 cases h2:idx x.rack s.racks.length
 ·simp only[↓X,↓Y,↓Q,S0,↓reduceIte,Nat.reduceEqDiff,Nat.reduceAdd,Int.reduceLT,Int.reduceLE,Int.reduceNeg,now w2,h2,(hb1.ext hx2).cell]
  exact⟨by simp[hostB,h2],hx1.trans hx2⟩
 simp only[↓X,↓Y,↓Q,S0,↓reduceIte,Nat.reduceEqDiff,Nat.reduceAdd,Int.reduceLT,Int.reduceLE,Int.reduceNeg,now w2,h2,(hb1.ext hx2).cell]
 refine ret_bind' hx2 (siteBetween) λw3 hx3=>?_
 cases h3:btw x.cores 1 1000
 ·simp only[↓X,↓Y,↓Q,S0,↓reduceIte,Nat.reduceEqDiff,Nat.reduceAdd,Int.reduceLT,Int.reduceLE,Int.reduceNeg,now w3,h3,(hb1.ext hx3).cell]
  exact⟨by simp[hostB,h3],hx1.trans hx3⟩
 simp only[↓X,↓Y,↓Q,S0,↓reduceIte,Nat.reduceEqDiff,Nat.reduceAdd,Int.reduceLT,Int.reduceLE,Int.reduceNeg,now w3,h3,(hb1.ext hx3).cell]
 refine ret_bind' hx3 (siteBetween) λw4 hx4=>?_
 cases h4:btw x.idle 0 10000
 ·simp only[↓X,↓Y,↓Q,S0,↓reduceIte,Nat.reduceEqDiff,Nat.reduceAdd,Int.reduceLT,Int.reduceLE,Int.reduceNeg,now w4,h4,(hb1.ext hx4).cell]
  exact⟨by simp[hostB,h4],hx1.trans hx4⟩
 simp only[↓X,↓Y,↓Q,S0,↓reduceIte,Nat.reduceEqDiff,Nat.reduceAdd,Int.reduceLT,Int.reduceLE,Int.reduceNeg,now w4,h4,(hb1.ext hx4).cell]
 refine ret_bind' hx4 siteBetween λw5 hx5=>?_
 simp only[↓X,↓Y,↓Q,S0,↓reduceIte,Nat.reduceEqDiff,Nat.reduceAdd,Int.reduceLT,Int.reduceLE,Int.reduceNeg,now w5]
 exact⟨by simp[hostB,h2,h3,h4],hx1.trans hx5⟩
end
theorem siteValid{w:World}{B:Nat}{u:SiteVs}{s:SiteD}(hB:B≤w.heap.size)(hs:SiteR w B u s):Ret Tryz.prog 102 #[.agg (siteC u s).toArray] w (.bool (siteB s)):=by
 (refine callsV_of Tryz.func102 rfl (by kernel_rfl) (by kernel_rfl) ?_;rw[Tryz.results102])
 simp only[↓X,↓Y,↓Q,S0,↓reduceIte,Nat.reduceEqDiff,Nat.reduceAdd,Int.reduceLT,Int.reduceLE,Int.reduceNeg,now w,siteC]
 refine alloc_intro λb1 w1 hb1 hx1 _=>?_
 have hs1:=hs.ext hx1 hB
 have hB1:B≤w1.heap.size:=Nat.le_trans hB hx1.size
 simp only[↓X,↓Y,↓Q,S0,↓reduceIte,Nat.reduceEqDiff,Nat.reduceAdd,Int.reduceLT,Int.reduceLE,Int.reduceNeg,now w1,hb1.cell]
 refine ret_bind' (Ext.refl w1) (siteSizes hs1) λw2 hx2=>?_
 cases h2:sizesB s
 ·simp only[↓X,↓Y,↓Q,S0,↓reduceIte,Nat.reduceEqDiff,Nat.reduceAdd,Int.reduceLT,Int.reduceLE,Int.reduceNeg,now w2,h2,(hb1.ext hx2).cell,siteC]
  exact⟨by simp[siteB,h2],hx1.trans hx2⟩
 simp only[↓X,↓Y,↓Q,S0,↓reduceIte,Nat.reduceEqDiff,Nat.reduceAdd,Int.reduceLT,Int.reduceLE,Int.reduceNeg,now w2,h2,(hb1.ext hx2).cell,siteC]
 have lt_:∀{w2},Ext w1 w2→B≤w2.heap.size:=λh=>Nat.le_trans hB1 h.size
 refine ret_bind' hx2 (containsNot_Feed (caps:=[]) (lt_ hx2) (hs1.ext hx2 hB1).f (by kernel_rfl) λx _ w' hx'=>siteValid1) λw3 hx3=>?_
 cases h3:s.feeds.all feedB
 ·simp only[↓X,↓Y,↓Q,S0,↓reduceIte,Nat.reduceEqDiff,Nat.reduceAdd,Int.reduceLT,Int.reduceLE,Int.reduceNeg,now w3,h3,(hb1.ext hx3).cell,siteC]
  exact⟨by simp[siteB,h3],hx1.trans hx3⟩
 simp only[↓X,↓Y,↓Q,S0,↓reduceIte,Nat.reduceEqDiff,Nat.reduceAdd,Int.reduceLT,Int.reduceLE,Int.reduceNeg,now w3,h3,(hb1.ext hx3).cell,siteC]
 refine ret_bind' hx3 (containsNot_Breaker (caps:=[_]) (lt_ hx3) (hs1.ext hx3 hB1).b (by kernel_rfl) λx _ w' hx'=>siteValid2 (hs1.ext (hx3.trans hx') hB1) (hb1.ext (hx3.trans hx'))) λw4 hx4=>?_
 cases h4:s.breakers.all (breakerB s)
 ·simp only[↓X,↓Y,↓Q,S0,↓reduceIte,Nat.reduceEqDiff,Nat.reduceAdd,Int.reduceLT,Int.reduceLE,Int.reduceNeg,now w4,h4,(hb1.ext hx4).cell,siteC]
  exact⟨by simp[siteB,h4],hx1.trans hx4⟩
 simp only[↓X,↓Y,↓Q,S0,↓reduceIte,Nat.reduceEqDiff,Nat.reduceAdd,Int.reduceLT,Int.reduceLE,Int.reduceNeg,now w4,h4,(hb1.ext hx4).cell,siteC]
 refine ret_bind' hx4 (containsNot_Loop (caps:=[]) (lt_ hx4) (hs1.ext hx4 hB1).l (by kernel_rfl) λx _ w' hx'=>siteValid3) λw5 hx5=>?_
 cases h5:s.loops.all loopB
 ·simp only[↓X,↓Y,↓Q,S0,↓reduceIte,Nat.reduceEqDiff,Nat.reduceAdd,Int.reduceLT,Int.reduceLE,Int.reduceNeg,now w5,h5,(hb1.ext hx5).cell,siteC]
  exact⟨by simp[siteB,h5],hx1.trans hx5⟩
 simp only[↓X,↓Y,↓Q,S0,↓reduceIte,Nat.reduceEqDiff,Nat.reduceAdd,Int.reduceLT,Int.reduceLE,Int.reduceNeg,now w5,h5,(hb1.ext hx5).cell,siteC]
 refine ret_bind' hx5 (containsNot_Rack (caps:=[_]) (lt_ hx5) (hs1.ext hx5 hB1).r (by kernel_rfl) λx _ w' hx'=>siteValid4 (hs1.ext (hx5.trans hx') hB1) (hb1.ext (hx5.trans hx'))) λw6 hx6=>?_
 cases h6:s.racks.all (rackB s)
 ·simp only[↓X,↓Y,↓Q,S0,↓reduceIte,Nat.reduceEqDiff,Nat.reduceAdd,Int.reduceLT,Int.reduceLE,Int.reduceNeg,now w6,h6,(hb1.ext hx6).cell,siteC]
  exact⟨by simp[siteB,h6],hx1.trans hx6⟩
 simp only[↓X,↓Y,↓Q,S0,↓reduceIte,Nat.reduceEqDiff,Nat.reduceAdd,Int.reduceLT,Int.reduceLE,Int.reduceNeg,now w6,h6,(hb1.ext hx6).cell,siteC]
 refine ret_bind' hx6 (containsNot_Link (caps:=[_]) (lt_ hx6) (hs1.ext hx6 hB1).k (by kernel_rfl) λx _ w' hx'=>siteValid5 (hs1.ext (hx6.trans hx') hB1) (hb1.ext (hx6.trans hx'))) λw7 hx7=>?_
 cases h7:s.links.all (linkB s)
 ·simp only[↓X,↓Y,↓Q,S0,↓reduceIte,Nat.reduceEqDiff,Nat.reduceAdd,Int.reduceLT,Int.reduceLE,Int.reduceNeg,now w7,h7,(hb1.ext hx7).cell,siteC]
  exact⟨by simp[siteB,h7],hx1.trans hx7⟩
 simp only[↓X,↓Y,↓Q,S0,↓reduceIte,Nat.reduceEqDiff,Nat.reduceAdd,Int.reduceLT,Int.reduceLE,Int.reduceNeg,now w7,h7,(hb1.ext hx7).cell,siteC]
 refine ret_bind' hx7 (containsNot_Host (caps:=[_]) (lt_ hx7) (hs1.ext hx7 hB1).h (by kernel_rfl) λx _ w' hx'=>siteValid6 (hs1.ext (hx7.trans hx') hB1) (hb1.ext (hx7.trans hx'))) λw8 hx8=>?_
 simp only[↓X,↓Y,↓Q,S0,↓reduceIte,Nat.reduceEqDiff,Nat.reduceAdd,Int.reduceLT,Int.reduceLE,Int.reduceNeg,now w8]
 exact⟨by simp only[siteB,h2,h3,h4,h5,h6,h7,Bool.true_and,Bool.not_not],hx1.trans hx8⟩
theorem worldBetween{w:World}{a b c:Int}:Ret Tryz.prog 106 #[intV a,intV b,intV c] w (.bool (btw a b c)):=by
 (refine callsV_of Tryz.func106 rfl (by kernel_rfl) (by kernel_rfl) ?_;rw[Tryz.results106])
 unfold intV
 cases h:decide (b≤a)<;>simp only[↓X,↓Y,↓Q,S0,↓reduceIte,Nat.reduceEqDiff,Nat.reduceAdd,Int.reduceLT,Int.reduceLE,Int.reduceNeg,now w,h]<;>exact⟨by simp[btw,h],Ext.refl w⟩
structure SrvV where
 x:ServiceD
 a:Value
 n:Value
def srvC(u:SrvV):List Value:=[intV u.x.cores,intV u.x.replicas,intV u.x.least,.int .u8 u.x.domain,intV u.x.spread,u.a,u.n,intV u.x.firmware]
def srvV(u:SrvV):Value:=.agg (srvC u).toArray
structure WishR (w:World) (B:Nat) (v:Value) (l:List SrvV):Prop where
 v:Sl w B (some 8) 8 v (l.map srvV)
 a:∀u∈l,Sl w B none 1 u.a (u.x.apart.map intV)
 n:∀u∈l,Sl w B (some 2) 2 u.n (u.x.near.map nearV)
theorem WishR.ext{w w':World}{B:Nat}{v:Value}{l:List SrvV}(h:WishR w B v l)(hx:Ext w w')(hB:B≤w.heap.size):WishR w' B v l:=
 ⟨h.v.ext hx hB,λu hu=>(h.a u hu).ext hx hB,λu hu=>(h.n u hu).ext hx hB⟩
theorem worldSpread{w:World}{u:SrvV}:Ret Tryz.prog 163 #[srvV u] w (.bool (spreadB u.x)):=by
 (refine callsV_of Tryz.func163 rfl (by kernel_rfl) (by kernel_rfl) ?_;rw[Tryz.results163])
 simp only[↓X,↓Y,↓Q,S0,↓reduceIte,Nat.reduceEqDiff,Nat.reduceAdd,Int.reduceLT,Int.reduceLE,Int.reduceNeg,now w,srvV,srvC,intV]
 refine alloc_intro λb1 w1 hb1 hx1 _=>?_
 simp only[↓X,↓Y,↓Q,S0,↓reduceIte,Nat.reduceEqDiff,Nat.reduceAdd,Int.reduceLT,Int.reduceLE,Int.reduceNeg,now w1,hb1.cell]
 cases h:u.x.domain == 0
 ·simp only[↓X,↓Y,↓Q,S0,↓reduceIte,Nat.reduceEqDiff,Nat.reduceAdd,Int.reduceLT,Int.reduceLE,Int.reduceNeg,now w1,h,hb1.cell]
  rw[beq_eq_false_iff_ne] at h
  cases h2:decide (u.x.domain≤5)
  ·simp only[↓X,↓Y,↓Q,S0,↓reduceIte,Nat.reduceEqDiff,Nat.reduceAdd,Int.reduceLT,Int.reduceLE,Int.reduceNeg,now w1,h2,hb1.cell]
   exact⟨by simp[spreadB,h,h2],hx1⟩
  simp only[↓X,↓Y,↓Q,S0,↓reduceIte,Nat.reduceEqDiff,Nat.reduceAdd,Int.reduceLT,Int.reduceLE,Int.reduceNeg,now w1,h2,hb1.cell]
  refine ret_bind' hx1 worldBetween λw3 hx3=>?_
  simp only[↓X,↓Y,↓Q,S0,↓reduceIte,Nat.reduceEqDiff,Nat.reduceAdd,Int.reduceLT,Int.reduceLE,Int.reduceNeg,now w3]
  exact⟨by simp[spreadB,h,h2],hx3⟩
 ·simp only[↓X,↓Y,↓Q,S0,↓reduceIte,Nat.reduceEqDiff,Nat.reduceAdd,Int.reduceLT,Int.reduceLE,Int.reduceNeg,now w1,h,hb1.cell]
  rw[beq_iff_eq] at h
  exact⟨by simp[spreadB,h],hx1⟩
theorem ascending_int{α:Type}{w:World}{B:Nat}{v:Value}{l:List α}{enc:α→Value}{cl:Nat}{caps:List Value}{q:α→Int}{bound but:Int}(hB:B≤w.heap.size)(hs:Sl w B none 1 v (l.map enc))(hc:callable Tryz.prog cl=true)
 (hf:∀x∈l,∀w',Ext w w'→Ret Tryz.prog cl (enc x::caps).toArray w' (intV (q x))):Ret Tryz.prog 164 #[v,.func (.func cl) #[] caps.toArray,intV bound,intV but] w (.bool (ascB bound but (-1) (l.map q))):=by
 (refine callsV_of Tryz.func164 rfl (by kernel_rfl) (by kernel_rfl) ?_;rw[Tryz.results164])
 simp only[↓X,↓Y,↓Q,S0,↓reduceIte,Nat.reduceEqDiff,Nat.reduceAdd,Int.reduceLT,Int.reduceLE,Int.reduceNeg,now w,hs.len_,intV]
 refine loopX_intro (λm g w'=>∃(k:Nat) (c:Int),k+m=l.length∧g 15=.int .i64 k∧g 14=.int .i64 l.length∧g 13=v∧g 1=.func (.func cl) #[] caps.toArray∧g 2=.int .i64 bound∧g 3=.int .i64 but∧g 9=.int .i64 c∧ascB bound but c ((l.drop k).map q)=ascB bound but (-1) (l.map q)∧Ext w w') l.length (by kernel_rfl) ?_ ?_
 ·refine⟨0,-1,by omega,?_⟩
  simp only[↓X,↓Y,↓Q,S0,↓reduceIte,Nat.reduceEqDiff,Nat.reduceAdd,Int.reduceLT,Int.reduceLE,Int.reduceNeg]
  (repeat' apply And.intro)<;>first|rfl|assumption|exact Ext.refl w
 ·rintro m g w1 ⟨k,c,hk,h15,h14,h13,h1,h2,h3,h9,hm,hx⟩
  by_cases hlt:k<l.length
  ·simp only[↓X,↓Y,↓Q,S0,↓reduceIte,Nat.reduceEqDiff,Nat.reduceAdd,Int.reduceLT,Int.reduceLE,Int.reduceNeg,now w1,h15,h14,h13,h1,h2,h3,h9,Int.ofNat_lt,hlt,hs.len_,(hs.ext hx hB).at_ k hlt,hc]
   refine ret_bind (hf _ (List.getElem_mem hlt) w1 hx) λw2 hx2=>?_
   rw[List.drop_eq_getElem_cons hlt,List.map_cons,ascB] at hm
   unfold intV
   simp only[↓X,↓Y,↓Q,S0,↓reduceIte,Nat.reduceEqDiff,Nat.reduceAdd,Int.reduceLT,Int.reduceLE,Int.reduceNeg,now w2,h15,h14,h13,h1,h2,h3,h9]
   cases c1:decide (q l[k]≤c)
   ·cases c2:decide (bound≤q l[k])
    ·cases c3:q l[k] == but
     ·simp only[↓X,↓Y,↓Q,S0,↓reduceIte,Nat.reduceEqDiff,Nat.reduceAdd,Int.reduceLT,Int.reduceLE,Int.reduceNeg,now w2,h15,h14,h13,h1,h2,h3,h9,c1,c2,c3]
      simp at c1 c2
      refine⟨m - 1,by omega,k+1,q l[k],?_⟩
      (repeat' apply And.intro)<;>first|rfl|assumption|omega|exact hx.trans hx2|rw[wrap_succ hlt hs.max_]|(rw[←hm,c3];simp[c1,c2])
     ·simp only[↓X,↓Y,↓Q,S0,↓reduceIte,Nat.reduceEqDiff,Nat.reduceAdd,Int.reduceLT,Int.reduceLE,Int.reduceNeg,now w2,h15,h14,h13,h1,h2,h3,h9,c1,c2,c3]
      exact⟨by rw[←hm,c3];simp,hx.trans hx2⟩
    ·simp only[↓X,↓Y,↓Q,S0,↓reduceIte,Nat.reduceEqDiff,Nat.reduceAdd,Int.reduceLT,Int.reduceLE,Int.reduceNeg,now w2,h15,h14,h13,h1,h2,h3,h9,c1,c2]
     simp at c2
     exact⟨by rw[←hm];simp[Int.not_lt.mpr c2],hx.trans hx2⟩
   ·simp only[↓X,↓Y,↓Q,S0,↓reduceIte,Nat.reduceEqDiff,Nat.reduceAdd,Int.reduceLT,Int.reduceLE,Int.reduceNeg,now w2,h15,h14,h13,h1,h2,h3,h9,c1]
    simp at c1
    exact⟨by rw[←hm];simp[Int.not_lt.mpr c1],hx.trans hx2⟩
  ·simp only[↓X,↓Y,↓Q,S0,↓reduceIte,Nat.reduceEqDiff,Nat.reduceAdd,Int.reduceLT,Int.reduceLE,Int.reduceNeg,now w1,h15,h14,Int.ofNat_lt,hlt]
   rw[List.drop_eq_nil_of_le (by omega)] at hm
   exact⟨by rw[←hm];rfl,hx⟩
theorem ascending_Near{w:World}{B:Nat}{v:Value}{l:List NearD}{cl:Nat}{caps:List Value}{q:NearD→Int}{bound but:Int}(hB:B≤w.heap.size)(hs:Sl w B (some 2) 2 v (l.map nearV))(hc:callable Tryz.prog cl=true)
 (hf:∀x∈l,∀w',Ext w w'→Ret Tryz.prog cl (nearV x::caps).toArray w' (intV (q x))):Ret Tryz.prog 166 #[v,.func (.func cl) #[] caps.toArray,intV bound,intV but] w (.bool (ascB bound but (-1) (l.map q))):=by
 (refine callsV_of Tryz.func166 rfl (by kernel_rfl) (by kernel_rfl) ?_;rw[Tryz.results166])
 simp only[↓X,↓Y,↓Q,S0,↓reduceIte,Nat.reduceEqDiff,Nat.reduceAdd,Int.reduceLT,Int.reduceLE,Int.reduceNeg,now w,hs.len_,intV]
 refine loopX_intro (λm g w'=>∃(k:Nat) (c:Int),k+m=l.length∧g 15=.int .i64 k∧g 14=.int .i64 l.length∧g 13=v∧g 1=.func (.func cl) #[] caps.toArray∧g 2=.int .i64 bound∧g 3=.int .i64 but∧g 9=.int .i64 c∧ascB bound but c ((l.drop k).map q)=ascB bound but (-1) (l.map q)∧Ext w w') l.length (by kernel_rfl) ?_ ?_
 ·refine⟨0,-1,by omega,?_⟩
  simp only[↓X,↓Y,↓Q,S0,↓reduceIte,Nat.reduceEqDiff,Nat.reduceAdd,Int.reduceLT,Int.reduceLE,Int.reduceNeg]
  (repeat' apply And.intro)<;>first|rfl|assumption|exact Ext.refl w
 ·rintro m g w1 ⟨k,c,hk,h15,h14,h13,h1,h2,h3,h9,hm,hx⟩
  by_cases hlt:k<l.length
  ·simp only[↓X,↓Y,↓Q,S0,↓reduceIte,Nat.reduceEqDiff,Nat.reduceAdd,Int.reduceLT,Int.reduceLE,Int.reduceNeg,now w1,h15,h14,h13,h1,h2,h3,h9,Int.ofNat_lt,hlt,hs.len_,(hs.ext hx hB).at_ k hlt,hc]
   refine alloc_intro λb2 w2 hb2 hx2 _=>?_
   simp only[↓X,↓Y,↓Q,S0,↓reduceIte,Nat.reduceEqDiff,Nat.reduceAdd,Int.reduceLT,Int.reduceLE,Int.reduceNeg,now w2,(hs.ext (hx.trans hx2) hB).at_ k hlt]
   refine storeAgg_intro (vs:=[intV l[k].service,intV l[k].latency]) (by kernel_rfl) hb2 rfl (by simp[intV,Value.oneCell']) λw3 hb3 hc3=>?_
   have hx3:Ext w1 w3:=ext_below hx2 (hc3.below (B:=w1.heap.size) ‹_› hx2.size) (Nat.le_refl _)
   simp only[↓X,↓Y,↓Q,S0,↓reduceIte,Nat.reduceEqDiff,Nat.reduceAdd,Int.reduceLT,Int.reduceLE,Int.reduceNeg,now w3,hb3.cell,h1,hc]
   refine ret_bind' hx3 (hf _ (List.getElem_mem hlt) w3 (hx.trans hx3)) λw2 hx2=>?_
   rw[List.drop_eq_getElem_cons hlt,List.map_cons,ascB] at hm
   unfold intV
   simp only[↓X,↓Y,↓Q,S0,↓reduceIte,Nat.reduceEqDiff,Nat.reduceAdd,Int.reduceLT,Int.reduceLE,Int.reduceNeg,now w2,h15,h14,h13,h1,h2,h3,h9]
   cases c1:decide (q l[k]≤c)
   ·cases c2:decide (bound≤q l[k])
    ·cases c3:q l[k] == but
     ·simp only[↓X,↓Y,↓Q,S0,↓reduceIte,Nat.reduceEqDiff,Nat.reduceAdd,Int.reduceLT,Int.reduceLE,Int.reduceNeg,now w2,h15,h14,h13,h1,h2,h3,h9,c1,c2,c3]
      simp at c1 c2
      refine⟨m - 1,by omega,k+1,q l[k],?_⟩
      (repeat' apply And.intro)<;>first|rfl|assumption|omega|exact hx.trans hx2|rw[wrap_succ hlt hs.max_]|(rw[←hm,c3];simp[c1,c2])
     ·simp only[↓X,↓Y,↓Q,S0,↓reduceIte,Nat.reduceEqDiff,Nat.reduceAdd,Int.reduceLT,Int.reduceLE,Int.reduceNeg,now w2,h15,h14,h13,h1,h2,h3,h9,c1,c2,c3]
      exact⟨by rw[←hm,c3];simp,hx.trans hx2⟩
    ·simp only[↓X,↓Y,↓Q,S0,↓reduceIte,Nat.reduceEqDiff,Nat.reduceAdd,Int.reduceLT,Int.reduceLE,Int.reduceNeg,now w2,h15,h14,h13,h1,h2,h3,h9,c1,c2]
     simp at c2
     exact⟨by rw[←hm];simp[Int.not_lt.mpr c2],hx.trans hx2⟩
   ·simp only[↓X,↓Y,↓Q,S0,↓reduceIte,Nat.reduceEqDiff,Nat.reduceAdd,Int.reduceLT,Int.reduceLE,Int.reduceNeg,now w2,h15,h14,h13,h1,h2,h3,h9,c1]
    simp at c1
    exact⟨by rw[←hm];simp[Int.not_lt.mpr c1],hx.trans hx2⟩
  ·simp only[↓X,↓Y,↓Q,S0,↓reduceIte,Nat.reduceEqDiff,Nat.reduceAdd,Int.reduceLT,Int.reduceLE,Int.reduceNeg,now w1,h15,h14,Int.ofNat_lt,hlt]
   rw[List.drop_eq_nil_of_le (by omega)] at hm
   exact⟨by rw[←hm];rfl,hx⟩
theorem ascending_id{w:World}{B:Nat}{v:Value}{l:List Int}{cl:Nat}{caps:List Value}{bound but:Int}(hB:B≤w.heap.size)(hs:Sl w B none 1 v (l.map intV))(hc:callable Tryz.prog cl=true)
 (hf:∀x∈l,∀w',Ext w w'→Ret Tryz.prog cl (intV x::caps).toArray w' (intV x)):Ret Tryz.prog 164 #[v,.func (.func cl) #[] caps.toArray,intV bound,intV but] w (.bool (ascB bound but (-1) l)):=by
 have:=ascending_int (q:=id) hB hs hc hf (bound:=bound) (but:=but)
 rwa [List.map_id] at this
theorem worldValidWish1{w:World}{a:Int}:Ret Tryz.prog 165 #[intV a] w (intV a):=by
 (refine callsV_of Tryz.func165 rfl (by kernel_rfl) (by kernel_rfl) ?_;rw[Tryz.results165])
 simp only[↓X,↓Y,↓Q,S0,↓reduceIte,Nat.reduceEqDiff,Nat.reduceAdd,Int.reduceLT,Int.reduceLE,Int.reduceNeg,now w]
 (repeat' apply And.intro)<;>first|rfl|assumption|exact Ext.refl w
theorem worldValidWish2{w:World}{x:NearD}:Ret Tryz.prog 167 #[nearV x] w (intV x.service):=by
 (refine callsV_of Tryz.func167 rfl (by kernel_rfl) (by kernel_rfl) ?_;rw[Tryz.results167])
 simp only[↓X,↓Y,↓Q,S0,↓reduceIte,Nat.reduceEqDiff,Nat.reduceAdd,Int.reduceLT,Int.reduceLE,Int.reduceNeg,now w,nearV]
 refine alloc_intro λb1 w1 hb1 hx1 _=>?_
 simp only[↓X,↓Y,↓Q,S0,↓reduceIte,Nat.reduceEqDiff,Nat.reduceAdd,Int.reduceLT,Int.reduceLE,Int.reduceNeg,now w1,hb1.cell]
 (repeat' apply And.intro)<;>first|rfl|assumption
theorem worldValidWish3{w:World}{x:NearD}:Ret Tryz.prog 169 #[nearV x] w (.bool (!btw x.latency 0 1000000)):=by
 (refine callsV_of Tryz.func169 rfl (by kernel_rfl) (by kernel_rfl) ?_;rw[Tryz.results169])
 simp only[↓X,↓Y,↓Q,S0,↓reduceIte,Nat.reduceEqDiff,Nat.reduceAdd,Int.reduceLT,Int.reduceLE,Int.reduceNeg,now w,nearV,intV]
 refine alloc_intro λb1 w1 hb1 hx1 _=>?_
 simp only[↓X,↓Y,↓Q,S0,↓reduceIte,Nat.reduceEqDiff,Nat.reduceAdd,Int.reduceLT,Int.reduceLE,Int.reduceNeg,now w1,hb1.cell]
 refine ret_bind' hx1 worldBetween λw2 hx2=>?_
 simp only[↓X,↓Y,↓Q,S0,↓reduceIte,Nat.reduceEqDiff,Nat.reduceAdd,Int.reduceLT,Int.reduceLE,Int.reduceNeg,now w2]
 (repeat' apply And.intro)<;>first|rfl|assumption
theorem worldValidWish{w:World}{B:Nat}{v:Value}{l:List SrvV}(hB:B≤w.heap.size)(hs:WishR w B v l):Ret Tryz.prog 103 #[.agg #[v]] w (.bool (wishB (l.map (·.x)))):=by
 (refine callsV_of Tryz.func103 rfl (by kernel_rfl) (by kernel_rfl) ?_;rw[Tryz.results103])
 simp only[↓X,↓Y,↓Q,S0,↓reduceIte,Nat.reduceEqDiff,Nat.reduceAdd,Int.reduceLT,Int.reduceLE,Int.reduceNeg,now w]
 refine alloc_intro λb1 w1 hb1 hx1 _=>?_
 simp only[↓X,↓Y,↓Q,S0,↓reduceIte,Nat.reduceEqDiff,Nat.reduceAdd,Int.reduceLT,Int.reduceLE,Int.reduceNeg,now w1,hb1.cell,hs.v.len_]
 cases h8:decide (8<(l.length:Int))
 ·simp only[↓X,↓Y,↓Q,S0,↓reduceIte,Nat.reduceEqDiff,Nat.reduceAdd,Int.reduceLT,Int.reduceLE,Int.reduceNeg,now w1,h8,hb1.cell,hs.v.len_]
  simp at h8
  refine loopX_intro (λm g w'=>∃(k:Nat) (c:Int),k+m=l.length∧g 15=.int .i64 k∧g 14=.int .i64 l.length∧g 13=v∧g 3=.int .i64 l.length∧g 4=.int .i64 c∧srvsB l.length k ((l.drop k).map (·.x))=srvsB l.length 0 (l.map (·.x)) ∧
   c+sumR ((l.drop k).map (·.x))=sumR (l.map (·.x))∧0≤c∧c≤24 * k∧Ext w w') l.length (by kernel_rfl) ?_ ?_
  ·refine⟨0,0,by omega,?_⟩
   simp only[↓X,↓Y,↓Q,S0,↓reduceIte,Nat.reduceEqDiff,Nat.reduceAdd,Int.reduceLT,Int.reduceLE,Int.reduceNeg]
   (repeat' apply And.intro)<;>first|rfl|assumption|omega|simp
  ·rintro m g w2 ⟨k,c,hk,h15,h14,h13,h3,h4,hm,hsum,hc0,hc1,hx⟩
   by_cases hlt:k<l.length
   ·simp only[↓X,↓Y,↓Q,S0,↓reduceIte,Nat.reduceEqDiff,Nat.reduceAdd,Int.reduceLT,Int.reduceLE,Int.reduceNeg,now w2,h15,h14,h13,h3,h4,Int.ofNat_lt,hlt,hs.v.len_,(hs.v.ext hx hB).at_ k hlt]
    refine alloc_intro λb3 w3 hb3 hx3 _=>?_
    simp only[↓X,↓Y,↓Q,S0,↓reduceIte,Nat.reduceEqDiff,Nat.reduceAdd,Int.reduceLT,Int.reduceLE,Int.reduceNeg,now w3,(hs.v.ext (hx.trans hx3) hB).at_ k hlt]
    refine storeAgg_intro (vs:=srvC l[k]) (by kernel_rfl) hb3 rfl (by simp only[srvC,intV,List.mem_cons,List.not_mem_nil,or_false,forall_eq_or_imp,forall_eq,one_int,(hs.a _ (List.getElem_mem hlt)).one,(hs.n _ (List.getElem_mem hlt)).one,and_self]) λw4 hb4 hc4=>?_
    have hx4:Ext w w4:=hx.trans (ext_below hx3 (hc4.below (B:=w2.heap.size) ‹_› hx3.size) (Nat.le_refl _))
    rw[List.drop_eq_getElem_cons hlt,List.map_cons,srvsB] at hm
    rw[List.drop_eq_getElem_cons hlt,List.map_cons,sumR] at hsum
    have hf:serviceB l.length k l[k].x=false→srvsB l.length 0 (l.map (·.x))=false:=λh=>by rw[←hm,h,Bool.false_and]
    have wf:srvsB l.length 0 (l.map (·.x))=false→wishB (l.map (·.x))=false:=λh=>by simp[wishB,h]
    have hmem:=List.getElem_mem hlt
    have hB4:B≤w4.heap.size:=Nat.le_trans hB hx4.size
    have hs4:=hs.ext hx4 hB
    simp only[↓X,↓Y,↓Q,S0,↓reduceIte,Nat.reduceEqDiff,Nat.reduceAdd,Int.reduceLT,Int.reduceLE,Int.reduceNeg,now w4,hb4.cell,srvC,intV]
    refine ret_bind' (Ext.refl w4) (worldBetween) λw5 hx5=>?_
    cases c1:btw l[k].x.cores 1 1000
    ·simp only[↓X,↓Y,↓Q,S0,↓reduceIte,Nat.reduceEqDiff,Nat.reduceAdd,Int.reduceLT,Int.reduceLE,Int.reduceNeg,now w5,c1,(hb4.ext hx5).cell,srvC,intV]
     exact⟨by rw[wf (hf (by simp[serviceB,c1]))],hx4.trans hx5⟩
    simp only[↓X,↓Y,↓Q,S0,↓reduceIte,Nat.reduceEqDiff,Nat.reduceAdd,Int.reduceLT,Int.reduceLE,Int.reduceNeg,now w5,c1,(hb4.ext hx5).cell,srvC,intV]
    refine ret_bind' hx5 (worldBetween) λw6 hx6=>?_
    cases c2:btw l[k].x.replicas 0 24
    ·simp only[↓X,↓Y,↓Q,S0,↓reduceIte,Nat.reduceEqDiff,Nat.reduceAdd,Int.reduceLT,Int.reduceLE,Int.reduceNeg,now w6,c2,(hb4.ext hx6).cell,srvC,intV]
     exact⟨by rw[wf (hf (by simp[serviceB,c2]))],hx4.trans hx6⟩
    simp only[↓X,↓Y,↓Q,S0,↓reduceIte,Nat.reduceEqDiff,Nat.reduceAdd,Int.reduceLT,Int.reduceLE,Int.reduceNeg,now w6,c2,(hb4.ext hx6).cell,srvC,intV]
    refine ret_bind' hx6 (worldBetween) λw7 hx7=>?_
    cases c3:btw l[k].x.least 0 l[k].x.replicas
    ·simp only[↓X,↓Y,↓Q,S0,↓reduceIte,Nat.reduceEqDiff,Nat.reduceAdd,Int.reduceLT,Int.reduceLE,Int.reduceNeg,now w7,c3,(hb4.ext hx7).cell,srvC,intV]
     exact⟨by rw[wf (hf (by simp[serviceB,c3]))],hx4.trans hx7⟩
    simp only[↓X,↓Y,↓Q,S0,↓reduceIte,Nat.reduceEqDiff,Nat.reduceAdd,Int.reduceLT,Int.reduceLE,Int.reduceNeg,now w7,c3,(hb4.ext hx7).cell,srvC,intV]
    refine ret_bind' hx7 (worldBetween) λw8 hx8=>?_
    cases c4:btw l[k].x.firmware 0 1000000
    ·simp only[↓X,↓Y,↓Q,S0,↓reduceIte,Nat.reduceEqDiff,Nat.reduceAdd,Int.reduceLT,Int.reduceLE,Int.reduceNeg,now w8,c4,(hb4.ext hx8).cell,srvC,intV]
     exact⟨by rw[wf (hf (by simp[serviceB,c4]))],hx4.trans hx8⟩
    simp only[↓X,↓Y,↓Q,S0,↓reduceIte,Nat.reduceEqDiff,Nat.reduceAdd,Int.reduceLT,Int.reduceLE,Int.reduceNeg,now w8,c4,(hb4.ext hx8).cell,srvC,intV]
    refine ret_bind' hx8 (worldSpread (u:=l[k])) λw9 hx9=>?_
    cases c5:spreadB l[k].x
    ·simp only[↓X,↓Y,↓Q,S0,↓reduceIte,Nat.reduceEqDiff,Nat.reduceAdd,Int.reduceLT,Int.reduceLE,Int.reduceNeg,now w9,c5,(hb4.ext hx9).cell,srvC,intV,h3]
     exact⟨by rw[wf (hf (by simp[serviceB,c5]))],hx4.trans hx9⟩
    simp only[↓X,↓Y,↓Q,S0,↓reduceIte,Nat.reduceEqDiff,Nat.reduceAdd,Int.reduceLT,Int.reduceLE,Int.reduceNeg,now w9,c5,(hb4.ext hx9).cell,srvC,intV,h3]
    refine ret_bind' hx9 (ascending_id (caps:=[]) (Nat.le_trans hB4 hx9.size) ((hs4.a _ hmem).ext hx9 hB4) (by kernel_rfl) (λ_ _ _ _=>worldValidWish1)) λw10 hx10=>?_
    cases c6:ascB l.length k (-1) l[k].x.apart
    ·simp only[↓X,↓Y,↓Q,S0,↓reduceIte,Nat.reduceEqDiff,Nat.reduceAdd,Int.reduceLT,Int.reduceLE,Int.reduceNeg,now w10,c6,(hb4.ext hx10).cell,srvC,intV,h3]
     exact⟨by rw[wf (hf (by simp[serviceB,c6]))],hx4.trans hx10⟩
    simp only[↓X,↓Y,↓Q,S0,↓reduceIte,Nat.reduceEqDiff,Nat.reduceAdd,Int.reduceLT,Int.reduceLE,Int.reduceNeg,now w10,c6,(hb4.ext hx10).cell,srvC,intV,h3]
    refine ret_bind' hx10 (ascending_Near (caps:=[]) (q:=λk=>k.service) (Nat.le_trans hB4 hx10.size) ((hs4.n _ hmem).ext hx10 hB4) (by kernel_rfl) (λ_ _ _ _=>worldValidWish2)) λw11 hx11=>?_
    cases c7:ascB l.length k (-1) (l[k].x.near.map λk=>k.service)
    ·simp only[↓X,↓Y,↓Q,S0,↓reduceIte,Nat.reduceEqDiff,Nat.reduceAdd,Int.reduceLT,Int.reduceLE,Int.reduceNeg,now w11,c7,(hb4.ext hx11).cell,srvC,intV,h3]
     exact⟨by rw[wf (hf (by simp[serviceB,c7]))],hx4.trans hx11⟩
    simp only[↓X,↓Y,↓Q,S0,↓reduceIte,Nat.reduceEqDiff,Nat.reduceAdd,Int.reduceLT,Int.reduceLE,Int.reduceNeg,now w11,c7,(hb4.ext hx11).cell,srvC,intV,h3]
    refine ret_bind' hx11 (containsNot_Near (caps:=[]) (q:=λk=>btw k.latency 0 1000000) (Nat.le_trans hB4 hx11.size) ((hs4.n _ hmem).ext hx11 hB4) (by kernel_rfl) (λ_ _ _ _=>worldValidWish3)) λw12 hx12=>?_
    cases c8:(l[k].x.near.all λk=>btw k.latency 0 1000000)
    ·simp only[↓X,↓Y,↓Q,S0,↓reduceIte,Nat.reduceEqDiff,Nat.reduceAdd,Int.reduceLT,Int.reduceLE,Int.reduceNeg,now w12,c8,(hb4.ext hx12).cell,srvC,intV,h4,h15,h14,h13,h3]
     exact⟨by rw[wf (hf (by simp[serviceB,c8]))],hx4.trans hx12⟩
    simp only[↓X,↓Y,↓Q,S0,↓reduceIte,Nat.reduceEqDiff,Nat.reduceAdd,Int.reduceLT,Int.reduceLE,Int.reduceNeg,now w12,c8,(hb4.ext hx12).cell,srvC,intV,h4,h15,h14,h13,h3]
    have hb:serviceB l.length k l[k].x=true:=by simp only[serviceB,c1,c2,c3,c4,c5,c6,c7,c8,Bool.and_self]
    have hr:0≤l[k].x.replicas∧l[k].x.replicas≤24:=by simpa [btw] using c2
    refine⟨m - 1,by omega,k+1,c+l[k].x.replicas,?_⟩
    (repeat' apply And.intro)<;>first|rfl|assumption|omega|exact hx4.trans hx12|rw[wrap_succ hlt hs.v.max_]|rw[wrap_i64_id (by omega) (by omega)]|rw[←hm,hb,Bool.true_and]
   ·simp only[↓X,↓Y,↓Q,S0,↓reduceIte,Nat.reduceEqDiff,Nat.reduceAdd,Int.reduceLT,Int.reduceLE,Int.reduceNeg,now w2,h15,h14,h4,Int.ofNat_lt,hlt]
    rw[List.drop_eq_nil_of_le (by omega)] at hm hsum
    simp only[List.map_nil,srvsB,sumR,Int.add_zero] at hm hsum
    exact⟨by simp[wishB,←hm,←hsum];omega,hx⟩
 ·simp only[↓X,↓Y,↓Q,S0,↓reduceIte,Nat.reduceEqDiff,Nat.reduceAdd,Int.reduceLT,Int.reduceLE,Int.reduceNeg,now w1,h8]
  simp at h8
  exact⟨by simp[wishB];omega,hx1⟩
end Go.Proofs.YtphciegaokdolaaGreatDoor
