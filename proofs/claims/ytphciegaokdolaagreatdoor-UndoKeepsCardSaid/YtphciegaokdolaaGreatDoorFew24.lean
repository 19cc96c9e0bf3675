/- What the statements on layer 24 call: few. -/
import Derived.Test.YtphciegaokdolaaGreatDoorLaw20
import Derived.Test.YtphciegaokdolaaGreatDoorPureX24
import Derived.Test.YtphciegaokdolaaGreatDoorCopy13
import Derived.Test.YtphciegaokdolaaGreatDoorRef13
namespace Go.Proofs.YtphciegaokdolaaGreatDoor
set_option linter.unusedSimpArgs false
set_option linter.unusedVariables false
open Go Go.RowKit
set_option maxRecDepth 100000
set_option linter.unusedSectionVars false
set_option maxHeartbeats 4000000
section
variable{w:World}{B:Nat}{u:SiteVs}{s:SiteD}{wv hv rv sv av:Value}{vs:List Value}{l:List SrvV}{x:WorldD}{p:PlanD}
theorem law24few(hB:B≤w.heap.size)(hs:SiteR w B u s)(hl:WishR w B wv l)(hx0:WorldR w B hv rv x)(hp:PlanR w B sv av vs p):RetB Tryz.prog 8 #[.agg (siteC u s).toArray,.agg #[wv],.agg #[hv,rv],.agg #[sv,av]] w:=by
 have hs':=hs.sk hB
 have hl':=hl.sk hB
 have hx':=hx0.sk hB
 have hp':=hp.sk hB
 have hmax:=hp.a.max_
 have hg:=λw' (h:Bl B w w') (k:Nat) (hk:k<p.after.length)=>(hp.a.bl h).get hk
 have⟨hn,hx⟩:=bg0 w
 unfold RetB
 (refine callsV_of Tryz.func8 rfl KR KR ?_;rw[Tryz.results8])
 simp only[List.append_eq,List.cons_append,List.nil_append]
 (repeat' first|(with_reducible first|exact⟨⟩|(refine gB ?_;intros)|refine gT ?_ ?_)|refine gs ?_|simp(maxDischargeDepth:=3) only[↓X,↓Y,↓Q,S1,↓reduceIte,Nat.reduceEqDiff,Nat.reduceAdd,Int.reduceLT,Int.reduceLE,Int.reduceNeg,Int.reduceBEq,Int.reduceBNe,Int.reduceEq,Nat.reduceLeDiff,Nat.reduceMul,Nat.reduceLT, *,siteC]|simp(singlePass:=true) (maxDischargeDepth:=99) only[*,S2,Nat.reduceLT,siteC])
 all_goals (try exact⟨_,rfl⟩)
 all_goals
  refine loop_k p.after.length (λg0 k g _=>g 9=.int .i64 k∧(g 7=g0 7)) KR (by omega) ?_ ?_ ?_
  ·(repeat' first|(with_reducible first|exact⟨⟩|(refine gB ?_;intros)|refine gT ?_ ?_)|refine gs ?_|refine sx ?_)
  ·rintro k m g w' hk hlt _ _ _ hw ⟨hi,hf⟩
   obtain⟨z,hz,hsz⟩:=hg w' FR k hlt
   have hz':=hsz.k FR
   (repeat' first|(with_reducible first|exact⟨⟩|(refine gB ?_;intros)|refine gT ?_ ?_)|refine gs ?_|refine sx ?_)
   ·exact⟨_,rfl⟩
   ·refine next_k hk hlt ?_ FR
    (repeat' first|(with_reducible first|exact⟨⟩|(refine gB ?_;intros)|refine gT ?_ ?_)|refine gs ?_|refine sx ?_)
  ·rintro g w' _ _ _ ⟨hi,hf⟩
   (repeat' first|(with_reducible first|exact⟨⟩|(refine gB ?_;intros)|refine gT ?_ ?_)|refine gs ?_|refine sx ?_)
   exact⟨_,rfl⟩
end
set_option maxHeartbeats 2000000
theorem row_of24{w:World}{b t n sz:Nat}{cells:List Value}{l:List (List Value)}(hb:Blk w b t cells)(hc:cells=l.flatten)(hn:n=l.length)(hl:∀c∈l,c.length=sz)(hs:l.length≤140737488355328):Sl w w.heap.size (some sz) sz (.slice (some ⟨b,0,none⟩) n n) (l.map λc=>.agg c.toArray):=by
 have h:=Own.ofBlkN (B:=0) (cs:=l) hn (by rw[←hc];exact hb) hl (Nat.zero_le _) hs
 have:=(show Own w 0 t sz _ (l.map id) by rwa [List.map_id]).slN (f:=id)
 exact this
theorem step_eq24{a b:StepD}:((a.kind == b.kind)&&((a.host == b.host)&&((a.service == b.service)&&(a.version == b.version))))=decide (a=b):=by
 cases a;cases b
 rw[Bool.eq_iff_iff];simp
def srvEx24:ServiceD:=⟨1,1,1,0,0,[],[],0⟩
def worldEx24:WorldD:=⟨[⟨0,0⟩,⟨0,0⟩,⟨0,0⟩],[⟨0,0⟩]⟩
def moveEx24:PlanD:=⟨[⟨1,1,0,0⟩,⟨2,0,0,0⟩],[[],[0]]⟩
def flashEx24:PlanD:=⟨[⟨3,1,0,0⟩,⟨4,1,0,0⟩,⟨7,1,0,5⟩],[[],[0],[1]]⟩
section
variable{w:World}{B B':Nat}
theorem ref19Same24{v v':Value}{a b:List StepD}(hB:B≤w.heap.size)(hB':B'≤w.heap.size)(ha:Sl w B (some 4) 4 v (a.map stepV))(hb:Sl w B' (some 4) 4 v' (b.map stepV)):Ret Tryz.prog 12 #[v,v'] w (.bool (decide (a=b))):=by
 have⟨hn,hx⟩:=bg0 w
 have ha':=ha.k hB
 have hb':=hb.k hB'
 (refine callsV_of Tryz.func12 rfl KR KR ?_;rw[Tryz.results12])
 (repeat' first|(with_reducible first|exact⟨⟩|(refine gB ?_;intros)|refine gT ?_ ?_)|refine gs ?_|refine sx ?_)
 ·rename_i h
  have hl:Hid (a.length=b.length):=h
  clear h
  refine loop_k (a.length) (λg0 k g _=>g 5=.int .i64 k∧(g 0=g0 0∧g 1=g0 1)∧Hid (a.take k=b.take k)) KR (ha.max_) ?_ ?_ ?_
  ·(repeat' first|(with_reducible first|exact⟨⟩|(refine gB ?_;intros)|refine gT ?_ ?_)|refine gs ?_|simp(maxDischargeDepth:=3) only[↓X,↓Y,↓Q,S1,↓reduceIte,Nat.reduceEqDiff,Nat.reduceAdd,Int.reduceLT,Int.reduceLE,Int.reduceNeg,Int.reduceBEq,Int.reduceBNe,Int.reduceEq,Nat.reduceLeDiff,Nat.reduceMul,Nat.reduceLT, *,List.take_zero,List.all_nil,List.any_nil]|simp(singlePass:=true) (maxDischargeDepth:=99) only[*,S2,Nat.reduceLT,List.take_zero,List.all_nil,List.any_nil])
   exact trivial
  ·rintro k m g wk hk hlt _ _ _ hw ⟨hi,hf,hp⟩
   simp(maxDischargeDepth:=3) only[U,↓reduceIte,Nat.reduceEqDiff, *] at hf
   have hb2:k<b.length:=by have:=hl.out;omega
   (repeat' first|(with_reducible first|exact⟨⟩|(refine gB ?_;intros)|refine gT ?_ ?_)|refine gs ?_|simp(maxDischargeDepth:=3) only[↓X,↓Y,↓Q,S1,↓reduceIte,Nat.reduceEqDiff,Nat.reduceAdd,Int.reduceLT,Int.reduceLE,Int.reduceNeg,Int.reduceBEq,Int.reduceBNe,Int.reduceEq,Nat.reduceLeDiff,Nat.reduceMul,Nat.reduceLT, *,stepV,stepC,step_eq24,dec_not]|simp(singlePass:=true) (maxDischargeDepth:=99) only[*,S2,Nat.reduceLT,stepV,stepC,step_eq24,dec_not])
   ·rename_i h
    refine next_k hk hlt ?_ FR
    (repeat' first|(with_reducible first|exact⟨⟩|(refine gB ?_;intros)|refine gT ?_ ?_)|refine gs ?_|refine sx ?_)
    exact take_next hp.out hlt hb2 h
   ·rename_i h
    have:¬a=b:=by rintro rfl;exact h rfl
    simp[this]
  ·rintro g wk _ _ _ ⟨hi,hf,hp⟩
   simp(maxDischargeDepth:=3) only[U,↓reduceIte,Nat.reduceEqDiff, *] at hf
   (repeat' first|(with_reducible first|exact⟨⟩|(refine gB ?_;intros)|refine gT ?_ ?_)|refine gs ?_|refine sx ?_)
   have hp:=hp.out
   simp[take_full hp hl.out]
 ·rename_i h
  have:¬a=b:=by rintro rfl;exact h rfl
  simp[this]
theorem lawSite24:CallsV Tryz.prog 25 #[] w λr w'=>Ext w w'∧∃u,r=.agg (siteC u siteEx).toArray∧SiteR w' w'.heap.size u siteEx:=by
 have⟨hn,hx⟩:=bg0 w
 (refine callsV_of Tryz.func25 rfl KR KR ?_;rw[Tryz.results25])
 (repeat' first|(with_reducible first|exact⟨⟩|(refine gB ?_;intros)|refine gT ?_ ?_)|refine gs ?_|refine sx ?_)
 rename_i b0 v0 n0 k0 s0 q0 b1 v1 n1 k1 s1 q1 l1 b2 v2 n2 k2 s2 q2 b3 v3 n3 k3 s3 q3 b4 v4 n4 k4 s4 q4 b5 v5 n5 k5 s5 q5 w6 n6 k6 s6
 refine⟨⟨.slice (some ⟨b1,0,none⟩) 1 1,.slice (some ⟨b2,0,none⟩) 1 1,.slice (some ⟨b3,0,none⟩) 1 1,.slice (some ⟨b4,0,none⟩) 2 2,.slice none 0 0,.slice (some ⟨b5,0,none⟩) 3 3⟩,rfl,?_⟩
 exact⟨row_of24 (l:=[[intV 1000]]) (k1.2.1 _ FR) rfl rfl (by simp) (by simp),row_of24 (l:=[[intV 0,intV 500,intV 0,intV 0]]) (k2.2.1 _ FR) rfl rfl (by simp) (by simp),row_of24 (l:=[[intV 1000,intV 0]]) (k3.2.1 _ FR) rfl rfl (by simp) (by simp),
  row_of24 (l:=[[intV 0,intV 0,intV 0,intV 0],[intV 2,intV 0,intV 0,intV 0]]) (k4.2.1 _ FR) rfl rfl (by simp) (by simp),Sl.nil _ _ _ _,row_of24 (l:=[[intV 0,intV 4,intV 0,intV 0],[intV 0,intV 4,intV 0,intV 0],[intV 1,intV 4,intV 0,intV 0]]) (k5.2.1 _ FR) rfl rfl (by simp) (by simp)⟩
theorem lawWish24:CallsV Tryz.prog 26 #[] w λr w'=>Ext w w'∧∃(v:Value) (l:List SrvV),r=.agg #[v]∧WishR w' w'.heap.size v l∧l.map (·.x)=[srvEx24]:=by
 have⟨hn,hx⟩:=bg0 w
 (refine callsV_of Tryz.func26 rfl KR KR ?_;rw[Tryz.results26])
 (repeat' first|(with_reducible first|exact⟨⟩|(refine gB ?_;intros)|refine gT ?_ ?_)|refine gs ?_|refine sx ?_)
 rename_i b0 v0 n0 k0 s0 q0 b1 v1 n1 k1 s1 q1 w6 n6 k6 s6
 refine⟨_,[⟨srvEx24,.slice none 0 0,.slice none 0 0⟩],rfl,⟨?_,?_,?_⟩,rfl⟩
 ·exact row_of24 (l:=[[intV 1,intV 1,intV 1,.int .u8 0,intV 0,.slice none 0 0,.slice none 0 0,intV 0]]) (k1.2.1 _ FR) rfl rfl (by simp) (by simp)
 ·intro u hu;rw[List.mem_singleton.1 hu];exact Sl.nil _ _ _ _
 ·intro u hu;rw[List.mem_singleton.1 hu];exact Sl.nil _ _ _ _
theorem lawWorld24:CallsV Tryz.prog 27 #[] w λr w'=>Ext w w'∧∃hv rv,r=.agg #[hv,rv]∧WorldR w' w'.heap.size hv rv worldEx24:=by
 have⟨hn,hx⟩:=bg0 w
 (refine callsV_of Tryz.func27 rfl KR KR ?_;rw[Tryz.results27])
 (repeat' first|(with_reducible first|exact⟨⟩|(refine gB ?_;intros)|refine gT ?_ ?_)|refine gs ?_|refine sx ?_)
 refine mk_own_k (n:=3) (z:=.agg #[.int .u8 0,.int .i64 0]) rfl (by decide) (by decide) (by decide) λb1 w1 n1 hb1 s1 nw1=>?_
 have k1:=hb1.bk
 clear hb1
 (repeat' first|(with_reducible first|exact⟨⟩|(refine gB ?_;intros)|refine gT ?_ ?_)|refine gs ?_|refine sx ?_)
 rename_i b0 v0 n0 k0 s0 q0 b2 v2 n2 k2 s2 q2 w6 n6 k6 s6
 exact⟨_,_,rfl,row_of24 (l:=[[.int .u8 0,intV 0],[.int .u8 0,intV 0],[.int .u8 0,intV 0]]) (k1.2.1 _ FR) rfl rfl (by simp) (by simp),row_of24 (l:=[[intV 0,intV 0]]) (k2.2.1 _ FR) rfl rfl (by simp) (by simp)⟩
theorem lawMove24:CallsV Tryz.prog 29 #[] w λr w'=>Ext w w'∧∃sv av vs,r=.agg #[sv,av]∧PlanR w' w'.heap.size sv av vs moveEx24:=by
 have⟨hn,hx⟩:=bg0 w
 (refine callsV_of Tryz.func29 rfl KR KR ?_;rw[Tryz.results29])
 (repeat' first|(with_reducible first|exact⟨⟩|(refine gB ?_;intros)|refine gT ?_ ?_)|refine gs ?_|refine sx ?_)
 rename_i b0 v0 n0 k0 s0 q0 b1 v1 n1 k1 s1 q1 b2 v2 n2 k2 s2 q2 l2 b3 v3 n3 k3 s3 q3 l3 v4 n4 k4 s4
 have m2:=k2.2.1 v4 FR
 refine⟨_,_,_,rfl,row_of24 (l:=moveEx24.steps.map stepC) (k1.2.1 _ FR) rfl rfl (by simp[moveEx24,stepC]) (by simp[moveEx24]),row_ll (k3.2.1 _ FR) rfl rfl (by decide) λi hi=>?_⟩
 simp only[moveEx24,List.length_cons,List.length_nil] at hi
 rcases i with _|_|i
 ·exact⟨_,rfl,Sl.nil _ _ _ _⟩
 ·exact⟨_,rfl,row_sl m2 rfl (by simp[moveEx24,flashEx24])⟩
 ·omega
theorem lawFlash24:CallsV Tryz.prog 28 #[] w λr w'=>Ext w w'∧∃sv av vs,r=.agg #[sv,av]∧PlanR w' w'.heap.size sv av vs flashEx24:=by
 have⟨hn,hx⟩:=bg0 w
 (refine callsV_of Tryz.func28 rfl KR KR ?_;rw[Tryz.results28])
 (repeat' first|(with_reducible first|exact⟨⟩|(refine gB ?_;intros)|refine gT ?_ ?_)|refine gs ?_|refine sx ?_)
 rename_i b0 v0 n0 k0 s0 q0 b1 v1 n1 k1 s1 q1 b2 v2 n2 k2 s2 q2 l2 b5 v5 n5 k5 s5 q5 l5 b3 v3 n3 k3 s3 q3 l3 v4 n4 k4 s4
 have m2:=k2.2.1 v4 FR
 have m5:=k5.2.1 v4 FR
 refine⟨_,_,_,rfl,row_of24 (l:=flashEx24.steps.map stepC) (k1.2.1 _ FR) rfl rfl (by simp[flashEx24,stepC]) (by simp[flashEx24]),row_ll (k3.2.1 _ FR) rfl rfl (by decide) λi hi=>?_⟩
 simp only[flashEx24,List.length_cons,List.length_nil] at hi
 rcases i with _|_|_|i
 ·exact⟨_,rfl,Sl.nil _ _ _ _⟩
 ·exact⟨_,rfl,row_sl m2 rfl (by simp[moveEx24,flashEx24])⟩
 ·exact⟨_,rfl,row_sl m5 rfl (by simp[flashEx24])⟩
 ·omega
theorem ex24_move:planErr siteEx [srvEx24] moveEx24=0∧wldE 0 siteEx [srvEx24] moveEx24 worldEx24 3=0:=⟨by kernel_rfl,by kernel_rfl⟩
theorem ex24_back:lastS siteEx [srvEx24] moveEx24.steps (worldEx24::(runL siteEx [srvEx24] moveEx24.steps (seqF moveEx24 3 4096 0) worldEx24).1) (xsL (seqF moveEx24 3 4096 0))=[]∧backS siteEx [srvEx24] moveEx24.steps (worldEx24::(runL siteEx [srvEx24] moveEx24.steps (seqF moveEx24 3 4096 0) worldEx24).1) (xsL (seqF moveEx24 3 4096 0))=[⟨1,0,0,0⟩,⟨2,1,0,0⟩]:=⟨by kernel_rfl,by kernel_rfl⟩
theorem ex24_flash:planErr siteEx [srvEx24] flashEx24=0∧wldE 0 siteEx [srvEx24] flashEx24 worldEx24 7=0:=⟨by kernel_rfl,by kernel_rfl⟩
theorem ex24_flashed:wldW 0 siteEx [srvEx24] flashEx24 worldEx24 7=⟨[⟨0,0⟩,⟨2,5⟩,⟨0,0⟩],[⟨0,0⟩]⟩:=by kernel_rfl
end
end Go.Proofs.YtphciegaokdolaaGreatDoor
