/- The layer step: what its rules ask of the world; Ready. -/
import Derived.Test.YtphciegaokdolaaGreatDoorStep
import Derived.Test.YtphciegaokdolaaGreatDoorPure13
import Derived.Test.YtphciegaokdolaaGreatDoorRel3
import Derived.Test.YtphciegaokdolaaGreatDoorStart13b
import Derived.Test.YtphciegaokdolaaGreatDoorRef13
namespace Go.Proofs.YtphciegaokdolaaGreatDoor
set_option linter.unusedSimpArgs false
set_option linter.unusedVariables false
open Go Go.RowKit
set_option maxRecDepth 100000
set_option linter.unusedSectionVars false
set_option maxHeartbeats 2000000
theorem sxStep21{p q:Prop}(hq:q)(h:p=q:=by first|(simp(maxDischargeDepth:=3) only[↓X,↓Y,↓Q,S1,↓reduceIte,Nat.reduceEqDiff,Nat.reduceAdd,Int.reduceLT,Int.reduceLE,Int.reduceNeg,Int.reduceBEq,Int.reduceBNe,Int.reduceEq,Nat.reduceLeDiff,Nat.reduceMul,Nat.reduceLT, *,stepV,stepC,stateV];try exact rfl)|(simp(singlePass:=true) (maxDischargeDepth:=99) only[*,S2,Nat.reduceLT,stepV,stepC,stateV];try exact rfl)):p:=h▸hq
theorem sxStep22{p q:Prop}(hq:q)(h:p=q:=by first|(simp(maxDischargeDepth:=3) only[↓X,↓Y,↓Q,S1,↓reduceIte,Nat.reduceEqDiff,Nat.reduceAdd,Int.reduceLT,Int.reduceLE,Int.reduceNeg,Int.reduceBEq,Int.reduceBNe,Int.reduceEq,Nat.reduceLeDiff,Nat.reduceMul,Nat.reduceLT, *,stepV,stepC];try exact rfl)|(simp(singlePass:=true) (maxDischargeDepth:=99) only[*,S2,Nat.reduceLT,stepV,stepC];try exact rfl)):p:=h▸hq
theorem sxStep23{p q:Prop}(hq:q)(h:p=q:=by first|(simp(maxDischargeDepth:=3) only[↓X,↓Y,↓Q,S1,↓reduceIte,Nat.reduceEqDiff,Nat.reduceAdd,Int.reduceLT,Int.reduceLE,Int.reduceNeg,Int.reduceBEq,Int.reduceBNe,Int.reduceEq,Nat.reduceLeDiff,Nat.reduceMul,Nat.reduceLT, *,siteC,stepV,stepC];try exact rfl)|(simp(singlePass:=true) (maxDischargeDepth:=99) only[*,S2,Nat.reduceLT,siteC,stepV,stepC];try exact rfl)):p:=h▸hq
theorem sxStep24{p q:Prop}(hq:q)(h:p=q:=by first|(simp(maxDischargeDepth:=3) only[↓X,↓Y,↓Q,S1,↓reduceIte,Nat.reduceEqDiff,Nat.reduceAdd,Int.reduceLT,Int.reduceLE,Int.reduceNeg,Int.reduceBEq,Int.reduceBNe,Int.reduceEq,Nat.reduceLeDiff,Nat.reduceMul,Nat.reduceLT, *,stateV];try exact rfl)|(simp(singlePass:=true) (maxDischargeDepth:=99) only[*,S2,Nat.reduceLT,stateV];try exact rfl)):p:=h▸hq
section
variable{w:World}{B:Nat}{u:SiteVs}{s:SiteD}{wv hv rv:Value}{l:List SrvV}{x:WorldD}{st:StepD}{wl:List ServiceD}
theorem stepB_eq:stepB s wl st=stepB2 s wl st:=by
 by_cases h:1≤st.kind∧st.kind≤7
 ·obtain⟨k,a,b,c⟩:=st
  simp only at h
  rcases(by omega:k=1∨k=2∨k=3∨k=4∨k=5∨k=6∨k=7) with rfl|rfl|rfl|rfl|rfl|rfl|rfl<;>rfl
 ·have h1:ruleD st.kind=none:=by
   rw[ruleD,List.find?_eq_none]
   intro r hr
   simp only[rulesL,List.mem_cons,List.not_mem_nil,or_false] at hr
   rcases hr with rfl|rfl|rfl|rfl|rfl|rfl|rfl<;>(simp;omega)
  have h2:kindOk st.kind=false:=by
   rw[←Bool.not_eq_true,kindOk,Bool.and_eq_true,decide_eq_true_eq,decide_eq_true_eq];exact h
  simp only[stepB,h1,stepB2,h2,Bool.false_and]
def phV(p:Int):Value:=.int .u8 p
theorem slicesIndexPhase{v:Value}{ps:List Int}{p:Int}(hB:B≤w.heap.size)(hv:Sl w B none 1 v (ps.map phV)):Ret Tryz.prog 224 #[v,.int .u8 p] w (intV (fidx (λa=>decide (a=p)) ps)):=by
 have⟨hn,hx⟩:=bg0 w
 have hv':=hv.k hB
 (refine callsV_of Tryz.func224 rfl KR KR ?_;rw[Tryz.results224])
 (repeat' first|(with_reducible first|exact⟨⟩|(refine gB ?_;intros)|refine gT ?_ ?_)|refine gs ?_|simp(maxDischargeDepth:=3) only[↓X,↓Y,↓Q,S1,↓reduceIte,Nat.reduceEqDiff,Nat.reduceAdd,Int.reduceLT,Int.reduceLE,Int.reduceNeg,Int.reduceBEq,Int.reduceBNe,Int.reduceEq,Nat.reduceLeDiff,Nat.reduceMul,Nat.reduceLT, *,phV]|simp(singlePass:=true) (maxDischargeDepth:=99) only[*,S2,Nat.reduceLT,phV])
 refine loop_k (ps.length) (λg0 k g _=>g 8=.int .i64 k∧(g 0=g0 0∧g 1=g0 1∧g 7=g0 7)∧Hid (∀j (h:j<ps.length),j<k→¬ps[j]=p)) KR (hv.max_) ?_ ?_ ?_
 ·(repeat' first|(with_reducible first|exact⟨⟩|(refine gB ?_;intros)|refine gT ?_ ?_)|refine gs ?_|simp(maxDischargeDepth:=3) only[↓X,↓Y,↓Q,S1,↓reduceIte,Nat.reduceEqDiff,Nat.reduceAdd,Int.reduceLT,Int.reduceLE,Int.reduceNeg,Int.reduceBEq,Int.reduceBNe,Int.reduceEq,Nat.reduceLeDiff,Nat.reduceMul,Nat.reduceLT, *,List.take_zero,List.all_nil,List.any_nil]|simp(singlePass:=true) (maxDischargeDepth:=99) only[*,S2,Nat.reduceLT,List.take_zero,List.all_nil,List.any_nil])
  exact λj _ h=>absurd h (by omega)
 ·rintro k m g wk hk hlt _ _ _ hw ⟨hi,hf,hp⟩
  simp(maxDischargeDepth:=3) only[U,↓reduceIte,Nat.reduceEqDiff, *] at hf
  (repeat' first|(with_reducible first|exact⟨⟩|(refine gB ?_;intros)|refine gT ?_ ?_)|refine gs ?_|simp(maxDischargeDepth:=3) only[↓X,↓Y,↓Q,S1,↓reduceIte,Nat.reduceEqDiff,Nat.reduceAdd,Int.reduceLT,Int.reduceLE,Int.reduceNeg,Int.reduceBEq,Int.reduceBNe,Int.reduceEq,Nat.reduceLeDiff,Nat.reduceMul,Nat.reduceLT, *,phV]|simp(singlePass:=true) (maxDischargeDepth:=99) only[*,S2,Nat.reduceLT,phV])
  ·rename_i h
   rw[fidx_found hlt (by simp[h]) (λj hj hjk=>by simpa [h] using hp.out j hj hjk)]
  ·rename_i h
   refine next_k hk hlt ?_ FR
   (repeat' first|(with_reducible first|exact⟨⟩|(refine gB ?_;intros)|refine gT ?_ ?_)|refine gs ?_|refine sx ?_)
   intro j hj hjk
   rcases Nat.lt_or_eq_of_le (Nat.le_of_lt_succ hjk) with h1|rfl
   ·exact hp.out j hj h1
   ·exact λe=>h e.symm
 ·rintro g wk _ _ _ ⟨hi,hf,hp⟩
  simp(maxDischargeDepth:=3) only[U,↓reduceIte,Nat.reduceEqDiff, *] at hf
  (repeat' first|(with_reducible first|exact⟨⟩|(refine gB ?_;intros)|refine gT ?_ ?_)|refine gs ?_|refine sx ?_)
  rw[fidx_none (λj hj=>by simp[hp.out j hj hj])]
theorem slicesContainsPhase{v:Value}{ps:List Int}{p:Int}(hB:B≤w.heap.size)(hv:Sl w B none 1 v (ps.map phV)):Ret Tryz.prog 218 #[v,.int .u8 p] w (.bool (ps.any λa=>decide (a=p))):=by
 have⟨hn,hx⟩:=bg0 w
 have hv':=hv.k hB
 (refine callsV_of Tryz.func218 rfl KR KR ?_;rw[Tryz.results218])
 (repeat' first|(with_reducible first|exact⟨⟩|(refine gB ?_;intros)|refine gT ?_ ?_)|refine gs ?_|((with_reducible refine at_f 224 ?_);refine ret_k (slicesIndexPhase (B:=B) (ps:=ps) (p:=p) FR FR) λ_ _ _=>?_)|simp(maxDischargeDepth:=3) only[↓X,↓Y,↓Q,S1,↓reduceIte,Nat.reduceEqDiff,Nat.reduceAdd,Int.reduceLT,Int.reduceLE,Int.reduceNeg,Int.reduceBEq,Int.reduceBNe,Int.reduceEq,Nat.reduceLeDiff,Nat.reduceMul,Nat.reduceLT, *,phV]|simp(singlePass:=true) (maxDischargeDepth:=99) only[*,S2,Nat.reduceLT,phV])
 rw[fidx_any]
theorem stepIn{B':Nat}{lv:Value}{ps:List Int}(hB:B≤w.heap.size)(hB':B'≤w.heap.size)(hx0:WorldR w B hv rv x)(hl:Sl w B' none 1 lv (ps.map phV))(hh:0≤st.host∧st.host<x.hosts.length):Ret Tryz.prog 206 #[.agg #[hv,rv],stepV st,lv] w (.bool (ps.any λa=>decide (a=(hostAt x st.host).phase))):=by
 have⟨hn,hx⟩:=bg0 w
 have hx':=hx0.sk hB
 have hl':=hl.k hB'
 obtain⟨k,hk⟩:∃k:Nat,st.host=k:=⟨st.host.toNat,by omega⟩
 have hlt:k<x.hosts.length:=by omega
 have hat:hostAt x st.host=x.hosts[k]:=by simp[hostAt,hk,hlt]
 rw[hat]
 clear hat hh
 (refine callsV_of Tryz.func206 rfl KR KR ?_;rw[Tryz.results206])
 (repeat' first|(with_reducible first|exact⟨⟩|(refine gB ?_;intros)|refine gT ?_ ?_)|refine gs ?_|((with_reducible refine at_f 218 ?_);refine ret_k (slicesContainsPhase (B:=B') (ps:=ps) FR FR) λ_ _ _=>?_)|refine sxStep21 ?_)
theorem stepFree1{r:ReplicaD}{b:Nat}(hb:Blk w b 79 (stepC st)):Ret Tryz.prog 176 #[replicaV r,.pointer (some ⟨b,0,none⟩)] w (.bool (r.host == st.host)):=by
 have⟨hn,hx⟩:=bg0 w
 have kb:=hb.bk
 (refine callsV_of Tryz.func176 rfl KR KR ?_;rw[Tryz.results176])
 (repeat' first|(with_reducible first|exact⟨⟩|(refine gB ?_;intros)|refine gT ?_ ?_)|refine gs ?_|simp(maxDischargeDepth:=3) only[↓X,↓Y,↓Q,S1,↓reduceIte,Nat.reduceEqDiff,Nat.reduceAdd,Int.reduceLT,Int.reduceLE,Int.reduceNeg,Int.reduceBEq,Int.reduceBNe,Int.reduceEq,Nat.reduceLeDiff,Nat.reduceMul,Nat.reduceLT, *,replicaV,stepC]|simp(singlePass:=true) (maxDischargeDepth:=99) only[*,S2,Nat.reduceLT,replicaV,stepC])
theorem stepFree(hB:B≤w.heap.size)(hx0:WorldR w B hv rv x):Ret Tryz.prog 116 #[.agg #[hv,rv],stepV st] w (.bool (!runsB x st.host)):=by
 have⟨hn,hx⟩:=bg0 w
 have hx':=hx0.sk hB
 have hX:=hx'.2.2.2.2
 (refine callsV_of Tryz.func116 rfl KR KR ?_;rw[Tryz.results116])
 (repeat' first|(with_reducible first|exact⟨⟩|(refine gB ?_;intros)|refine gT ?_ ?_)|refine gs ?_|refine sxStep22 ?_)
 have hcal1:callable Tryz.prog 176=true:=by kernel_rfl
 refine ret_k (containsFunc_Replica (caps:=[_]) (enc:=replicaV) (q:=λr=>r.host == st.host) (B:=B) (l:=x.replicas) FR FR hcal1 λr _ w' hx9=>by
  have s9:=hx9.st
  exact stepFree1 (by((try simp only[stepC,List.map_cons,List.map_nil,natV,intV]);simp(singlePass:=true) (maxDischargeDepth:=99) only[*,Nat.le_refl,not_false_eq_true,and_self,natV,intV,List.map_cons,List.map_nil,List.length_cons,List.length_nil,Nat.reduceAdd,Nat.reduceLeDiff]))) λw5 n5 s5=>?_
 (repeat' first|(with_reducible first|exact⟨⟩|(refine gB ?_;intros)|refine gT ?_ ?_)|refine gs ?_|simp(maxDischargeDepth:=3) only[↓X,↓Y,↓Q,S1,↓reduceIte,Nat.reduceEqDiff,Nat.reduceAdd,Int.reduceLT,Int.reduceLE,Int.reduceNeg,Int.reduceBEq,Int.reduceBNe,Int.reduceEq,Nat.reduceLeDiff,Nat.reduceMul,Nat.reduceLT, *,runsB]|simp(singlePass:=true) (maxDischargeDepth:=99) only[*,S2,Nat.reduceLT,runsB])
theorem stepReplica:Ret Tryz.prog 80 #[stepV st] w (replicaV (replOf st)):=by
 have⟨hn,hx⟩:=bg0 w
 (refine callsV_of Tryz.func80 rfl KR KR ?_;rw[Tryz.results80])
 (repeat' first|(with_reducible first|exact⟨⟩|(refine gB ?_;intros)|refine gT ?_ ?_)|refine gs ?_|simp(maxDischargeDepth:=3) only[↓X,↓Y,↓Q,S1,↓reduceIte,Nat.reduceEqDiff,Nat.reduceAdd,Int.reduceLT,Int.reduceLE,Int.reduceNeg,Int.reduceBEq,Int.reduceBNe,Int.reduceEq,Nat.reduceLeDiff,Nat.reduceMul,Nat.reduceLT, *,stepV,stepC,replicaV,replOf]|simp(singlePass:=true) (maxDischargeDepth:=99) only[*,S2,Nat.reduceLT,stepV,stepC,replicaV,replOf])
theorem rules2(hB:B≤w.heap.size)(hx0:WorldR w B hv rv x):Ret Tryz.prog 207 #[.agg #[hv,rv],stepV st] w (.bool (hasB x.replicas (replOf st))):=by
 have⟨hn,hx⟩:=bg0 w
 have hx':=hx0.sk hB
 have hX:=hx'.2.2.2.2
 (refine callsV_of Tryz.func207 rfl KR KR ?_;rw[Tryz.results207])
 (repeat' first|(with_reducible first|exact⟨⟩|(refine gB ?_;intros)|refine gT ?_ ?_)|refine gs ?_|((with_reducible refine at_q 80 ?_);refine qret_k (λ_ _ _=>stepReplica) ?_)|((with_reducible refine at_q 131 ?_);refine qret_k (λ_ _ _=>worldHas (r:=replOf st) (B:=B) FR (hX _ FR)) ?_)|refine sxStep22 ?_)
theorem rules3(hB:B≤w.heap.size)(hx0:WorldR w B hv rv x)(hh:0≤st.host∧st.host<x.hosts.length):Ret Tryz.prog 208 #[.agg #[hv,rv],stepV st] w (.bool ((hostAt x st.host).phase == 0)):=by
 have⟨hn,hx⟩:=bg0 w
 have hx':=hx0.sk hB
 have hX:=hx'.2.2.2.2
 obtain⟨ph,hph⟩:∃p,Hid ((hostAt x st.host).phase=p):=⟨_,rfl⟩
 have hin:=λw' B' lv (h1:Bl B w w') (h2:B≤w'.heap.size) (h3:B'≤w'.heap.size) (h4:Sl w' B' none 1 lv ([0].map phV))=>stepIn (st:=st) (ps:=[0]) h2 h3 (hX w' h1) h4 hh
 rw[hph.out] at hin ⊢
 have e:(([0]:List Int).any λa=>decide (a=ph))=(ph == 0):=by rw[Bool.eq_iff_iff];simp;omega
 rw[e] at hin
 clear e
 replace hin:Hid _:=hin
 (refine callsV_of Tryz.func208 rfl KR KR ?_;rw[Tryz.results208])
 (repeat' first|(with_reducible first|exact⟨⟩|(refine gB ?_;intros)|refine gT ?_ ?_)|refine gs ?_|((with_reducible refine at_f 206 ?_);refine ret_k (hin.out _ _ _ FR FR (Nat.le_refl _) (by((try simp only[phV,List.map_cons,List.map_nil,natV,intV]);simp(singlePass:=true) (maxDischargeDepth:=99) only[*,Nat.le_refl,not_false_eq_true,and_self,natV,intV,List.map_cons,List.map_nil,List.length_cons,List.length_nil,Nat.reduceAdd,Nat.reduceLeDiff]))) λ_ _ _=>?_)|refine sxStep22 ?_)
theorem rules6(hB:B≤w.heap.size)(hx0:WorldR w B hv rv x)(hh:0≤st.host∧st.host<x.hosts.length):Ret Tryz.prog 211 #[.agg #[hv,rv],stepV st] w (.bool ((hostAt x st.host).phase == 1||(hostAt x st.host).phase == 2||(hostAt x st.host).phase == 3)):=by
 have⟨hn,hx⟩:=bg0 w
 have hx':=hx0.sk hB
 have hX:=hx'.2.2.2.2
 obtain⟨ph,hph⟩:∃p,Hid ((hostAt x st.host).phase=p):=⟨_,rfl⟩
 have hin:=λw' B' lv (h1:Bl B w w') (h2:B≤w'.heap.size) (h3:B'≤w'.heap.size) (h4:Sl w' B' none 1 lv ([1,2,3].map phV))=>stepIn (st:=st) (ps:=[1,2,3]) h2 h3 (hX w' h1) h4 hh
 rw[hph.out] at hin ⊢
 have e:(([1,2,3]:List Int).any λa=>decide (a=ph))=(ph == 1||ph == 2||ph == 3):=by rw[Bool.eq_iff_iff];simp;omega
 rw[e] at hin
 clear e
 replace hin:Hid _:=hin
 (refine callsV_of Tryz.func211 rfl KR KR ?_;rw[Tryz.results211])
 (repeat' first|(with_reducible first|exact⟨⟩|(refine gB ?_;intros)|refine gT ?_ ?_)|refine gs ?_|((with_reducible refine at_f 206 ?_);refine ret_k (hin.out _ _ _ FR FR (Nat.le_refl _) (by((try simp only[phV,List.map_cons,List.map_nil,natV,intV]);simp(singlePass:=true) (maxDischargeDepth:=99) only[*,Nat.le_refl,not_false_eq_true,and_self,natV,intV,List.map_cons,List.map_nil,List.length_cons,List.length_nil,Nat.reduceAdd,Nat.reduceLeDiff]))) λ_ _ _=>?_)|refine sxStep22 ?_)
theorem rules7(hB:B≤w.heap.size)(hx0:WorldR w B hv rv x)(hh:0≤st.host∧st.host<x.hosts.length):Ret Tryz.prog 212 #[.agg #[hv,rv],stepV st] w (.bool ((hostAt x st.host).phase == 2)):=by
 have⟨hn,hx⟩:=bg0 w
 have hx':=hx0.sk hB
 have hX:=hx'.2.2.2.2
 obtain⟨ph,hph⟩:∃p,Hid ((hostAt x st.host).phase=p):=⟨_,rfl⟩
 have hin:=λw' B' lv (h1:Bl B w w') (h2:B≤w'.heap.size) (h3:B'≤w'.heap.size) (h4:Sl w' B' none 1 lv ([2].map phV))=>stepIn (st:=st) (ps:=[2]) h2 h3 (hX w' h1) h4 hh
 rw[hph.out] at hin ⊢
 have e:(([2]:List Int).any λa=>decide (a=ph))=(ph == 2):=by rw[Bool.eq_iff_iff];simp;omega
 rw[e] at hin
 clear e
 replace hin:Hid _:=hin
 (refine callsV_of Tryz.func212 rfl KR KR ?_;rw[Tryz.results212])
 (repeat' first|(with_reducible first|exact⟨⟩|(refine gB ?_;intros)|refine gT ?_ ?_)|refine gs ?_|((with_reducible refine at_f 206 ?_);refine ret_k (hin.out _ _ _ FR FR (Nat.le_refl _) (by((try simp only[phV,List.map_cons,List.map_nil,natV,intV]);simp(singlePass:=true) (maxDischargeDepth:=99) only[*,Nat.le_refl,not_false_eq_true,and_self,natV,intV,List.map_cons,List.map_nil,List.length_cons,List.length_nil,Nat.reduceAdd,Nat.reduceLeDiff]))) λ_ _ _=>?_)|refine sxStep22 ?_)
theorem rules4(hB:B≤w.heap.size)(hx0:WorldR w B hv rv x)(hh:0≤st.host∧st.host<x.hosts.length):Ret Tryz.prog 209 #[.agg #[hv,rv],stepV st] w (.bool ((hostAt x st.host).phase == 1&&!runsB x st.host)):=by
 have⟨hn,hx⟩:=bg0 w
 have hx':=hx0.sk hB
 have hX:=hx'.2.2.2.2
 obtain⟨ph,hph⟩:∃p,Hid ((hostAt x st.host).phase=p):=⟨_,rfl⟩
 have hin:=λw' B' lv (h1:Bl B w w') (h2:B≤w'.heap.size) (h3:B'≤w'.heap.size) (h4:Sl w' B' none 1 lv ([1].map phV))=>stepIn (st:=st) (ps:=[1]) h2 h3 (hX w' h1) h4 hh
 rw[hph.out] at hin ⊢
 have e:(([1]:List Int).any λa=>decide (a=ph))=(ph == 1):=by rw[Bool.eq_iff_iff];simp;omega
 rw[e] at hin
 clear e
 replace hin:Hid _:=hin
 generalize (ph == 1)=c at *
 (refine callsV_of Tryz.func209 rfl KR KR ?_;rw[Tryz.results209])
 cases c
 ·(repeat' first|(with_reducible first|exact⟨⟩|(refine gB ?_;intros)|refine gT ?_ ?_)|refine gs ?_|((with_reducible refine at_f 206 ?_);refine ret_k (hin.out _ _ _ FR FR (Nat.le_refl _) (by((try simp only[phV,List.map_cons,List.map_nil,natV,intV]);simp(singlePass:=true) (maxDischargeDepth:=99) only[*,Nat.le_refl,not_false_eq_true,and_self,natV,intV,List.map_cons,List.map_nil,List.length_cons,List.length_nil,Nat.reduceAdd,Nat.reduceLeDiff]))) λ_ _ _=>?_)|((with_reducible refine at_f 116 ?_);refine ret_k (stepFree (st:=st) (B:=B) FR (hX _ FR)) λ_ _ _=>?_)|refine sxStep22 ?_)
 ·(repeat' first|(with_reducible first|exact⟨⟩|(refine gB ?_;intros)|refine gT ?_ ?_)|refine gs ?_|((with_reducible refine at_f 206 ?_);refine ret_k (hin.out _ _ _ FR FR (Nat.le_refl _) (by((try simp only[phV,List.map_cons,List.map_nil,natV,intV]);simp(singlePass:=true) (maxDischargeDepth:=99) only[*,Nat.le_refl,not_false_eq_true,and_self,natV,intV,List.map_cons,List.map_nil,List.length_cons,List.length_nil,Nat.reduceAdd,Nat.reduceLeDiff]))) λ_ _ _=>?_)|((with_reducible refine at_f 116 ?_);refine ret_k (stepFree (st:=st) (B:=B) FR (hX _ FR)) λ_ _ _=>?_)|refine sxStep22 ?_)
theorem rules5(hB:B≤w.heap.size)(hx0:WorldR w B hv rv x)(hh:0≤st.host∧st.host<x.hosts.length):Ret Tryz.prog 210 #[.agg #[hv,rv],stepV st] w (.bool ((hostAt x st.host).phase == 2&&!runsB x st.host)):=by
 have⟨hn,hx⟩:=bg0 w
 have hx':=hx0.sk hB
 have hX:=hx'.2.2.2.2
 obtain⟨ph,hph⟩:∃p,Hid ((hostAt x st.host).phase=p):=⟨_,rfl⟩
 have hin:=λw' B' lv (h1:Bl B w w') (h2:B≤w'.heap.size) (h3:B'≤w'.heap.size) (h4:Sl w' B' none 1 lv ([2].map phV))=>stepIn (st:=st) (ps:=[2]) h2 h3 (hX w' h1) h4 hh
 rw[hph.out] at hin ⊢
 have e:(([2]:List Int).any λa=>decide (a=ph))=(ph == 2):=by rw[Bool.eq_iff_iff];simp;omega
 rw[e] at hin
 clear e
 replace hin:Hid _:=hin
 generalize (ph == 2)=c at *
 (refine callsV_of Tryz.func210 rfl KR KR ?_;rw[Tryz.results210])
 cases c
 ·(repeat' first|(with_reducible first|exact⟨⟩|(refine gB ?_;intros)|refine gT ?_ ?_)|refine gs ?_|((with_reducible refine at_f 206 ?_);refine ret_k (hin.out _ _ _ FR FR (Nat.le_refl _) (by((try simp only[phV,List.map_cons,List.map_nil,natV,intV]);simp(singlePass:=true) (maxDischargeDepth:=99) only[*,Nat.le_refl,not_false_eq_true,and_self,natV,intV,List.map_cons,List.map_nil,List.length_cons,List.length_nil,Nat.reduceAdd,Nat.reduceLeDiff]))) λ_ _ _=>?_)|((with_reducible refine at_f 116 ?_);refine ret_k (stepFree (st:=st) (B:=B) FR (hX _ FR)) λ_ _ _=>?_)|refine sxStep22 ?_)
 ·(repeat' first|(with_reducible first|exact⟨⟩|(refine gB ?_;intros)|refine gT ?_ ?_)|refine gs ?_|((with_reducible refine at_f 206 ?_);refine ret_k (hin.out _ _ _ FR FR (Nat.le_refl _) (by((try simp only[phV,List.map_cons,List.map_nil,natV,intV]);simp(singlePass:=true) (maxDischargeDepth:=99) only[*,Nat.le_refl,not_false_eq_true,and_self,natV,intV,List.map_cons,List.map_nil,List.length_cons,List.length_nil,Nat.reduceAdd,Nat.reduceLeDiff]))) λ_ _ _=>?_)|((with_reducible refine at_f 116 ?_);refine ret_k (stepFree (st:=st) (B:=B) FR (hX _ FR)) λ_ _ _=>?_)|refine sxStep22 ?_)
theorem rules1(hB:B≤w.heap.size)(hx0:WorldR w B hv rv x)(hh:0≤st.host∧st.host<x.hosts.length):Ret Tryz.prog 205 #[.agg #[hv,rv],stepV st] w (.bool ((hostAt x st.host).phase == 0&&!hasB x.replicas (replOf st)&&decide (x.replicas.length<24))):=by
 have⟨hn,hx⟩:=bg0 w
 have hx':=hx0.sk hB
 have hX:=hx'.2.2.2.2
 obtain⟨ph,hph⟩:∃p,Hid ((hostAt x st.host).phase=p):=⟨_,rfl⟩
 have hin:=λw' B' lv (h1:Bl B w w') (h2:B≤w'.heap.size) (h3:B'≤w'.heap.size) (h4:Sl w' B' none 1 lv ([0].map phV))=>stepIn (st:=st) (ps:=[0]) h2 h3 (hX w' h1) h4 hh
 rw[hph.out] at hin ⊢
 have e:(([0]:List Int).any λa=>decide (a=ph))=(ph == 0):=by rw[Bool.eq_iff_iff];simp;omega
 rw[e] at hin
 clear e hph hh
 have hha:=λw' (h1:Bl B w w') (h2:B≤w'.heap.size)=>worldHas (r:=replOf st) h2 (hX w' h1)
 generalize (ph == 0)=c at *
 generalize hasB x.replicas (replOf st)=h at *
 replace hin:Hid _:=hin
 replace hha:Hid _:=hha
 have h24:decide ((x.replicas.length:Int)<24)=decide (x.replicas.length<24):=by rw[Bool.eq_iff_iff];simp;omega
 (refine callsV_of Tryz.func205 rfl KR KR ?_;rw[Tryz.results205])
 (repeat' first|((with_reducible refine wpd_at 1 ?_);refine wpd_hold ?_)|(with_reducible first|exact⟨⟩|(refine gB ?_;intros)|refine gT ?_ ?_)|refine gs ?_|refine sxStep22 ?_)
 rename_i b2 v2 u2 k2 t2 q2 b3 w3 n3 k3 s3 q3
 cases c
 ·clear hha
  unfold wpdH
  refine wpd_rel 17 (λiI v w9=>match iI with
   |0=>v=.agg #[hv,rv]
   |1=>v=stepV st
   |2=>∃b,v=.slice (some ⟨b,0,none⟩) 1 1∧Blk w9 b 80 [.int .u8 0]∧w3.heap.size≤b
   |3=>v=.bool false
   |4=>v=.bool false
   |5=>v=undef
   |6=>v=undef
   |7=>v=undef
   |8=>v=undef
   |9=>v=undef
   |10=>v=.bool false
   |11=>v=.bool false
   |12=>v=undef
   |13=>v=undef
   |14=>v=undef
   |15=>v=undef
   |16=>v=.bool false
   |_=>False) KR KR KR ?_ ?_ ?_
  ·intro iI v w1 w2 hR hx9
   match iI,hR with
   |0,h|1,h=>exact h
   |2,⟨b,e,h1,h2⟩=>exact⟨b,e,h1.ext hx9,h2⟩
   |3,h|4,h|5,h|6,h|7,h|8,h|9,h|10,h|11,h|12,h|13,h|14,h|15,h|16,h=>exact h
  ·intro iI oO hi ho gF w9 hx9 hdep hag
   have⟨s9,n9,r9,z9⟩:=bg9 hx9
   rcases iI with _|_|_|_|_|_|_|_|_|_|_|_|_|_|_|_|_|iI
   cases ho
   have a2:=hag.at 2 KR
   simp only[S5,↓reduceIte,Nat.reduceEqDiff,initF, *] at a2
   clear hag hdep
   refine relStep_off rfl ?_
   rotate_left
   cases ho
   have a3:=hag.at 3 KR
   simp only[S5,↓reduceIte,Nat.reduceEqDiff,initF, *] at a3
   clear hag hdep
   refine relStep_off rfl ?_
   rotate_left
   ·cases ho
    clear hag hdep
    refine relStep_off rfl ?_
    (repeat' first|(with_reducible first|exact⟨⟩|(refine gB ?_;intros)|refine gT ?_ ?_)|refine gs ?_|((with_reducible refine at_f 206 ?_);refine ret_k (hin.out _ _ _ FR FR (Nat.le_refl _) (row_sl hb2 rfl (by simp))) λ_ _ _=>?_)|((with_reducible refine at_f 80 ?_);refine ret_k (stepReplica) λ_ _ _=>?_)|refine sxStep22 ?_)
    first
     |(rename_i b10 w10 n10 k10 s10 q10;exact⟨_,rfl,k10.2.1 _ k10.2.2.1,FR⟩)
     |(rename_i b10 w10 n10 k10 s10 q10 l10;exact⟨_,rfl,k10.2.1 _ k10.2.2.1,FR⟩)
   cases ho
   have d0:(gF 5)=.agg #[hv,rv]:=hdep ⟨0,.data⟩ (by simp) rfl _ _ rfl rfl
   have d1:(gF 6)=stepV st:=hdep ⟨1,.data⟩ (by simp) rfl _ _ rfl rfl
   obtain⟨b2,e2,hb2,q2⟩:=hdep ⟨2,.data⟩ (by simp) rfl _ _ rfl rfl
   have k2:=hb2.bk
   have nw2:=Nw.of q2
   clear hag hdep
   refine relStep_off rfl ?_
   rotate_left
   cases ho
   have d3:(gF 8)=.bool false:=hdep ⟨3,.data⟩ (by simp) rfl _ _ rfl rfl
   clear hag hdep
   refine relStep_off rfl ?_
   rotate_left
   ·cases ho
    have a2:=hag.at 2 KR
    simp only[S5,↓reduceIte,Nat.reduceEqDiff,initF, *] at a2
    have d4:(gF 9)=.bool false:=hdep ⟨4,.guard⟩ (by simp) rfl _ _ rfl rfl
    clear hag hdep
    exact relStep_skip (j:=4) (want:=true) (t:=9) rfl rfl (by rw[d4];simp[boolOf,undef]) ⟨Ext.refl _,rfl⟩
   ·cases ho
    have a3:=hag.at 3 KR
    simp only[S5,↓reduceIte,Nat.reduceEqDiff,initF, *] at a3
    have d4:(gF 9)=.bool false:=hdep ⟨4,.guard⟩ (by simp) rfl _ _ rfl rfl
    clear hag hdep
    exact relStep_skip (j:=4) (want:=true) (t:=9) rfl rfl (by rw[d4];simp[boolOf,undef]) ⟨Ext.refl _,rfl⟩
   ·cases ho
    have d6:(gF 11)=undef:=hdep ⟨6,.data⟩ (by simp) rfl _ _ rfl rfl
    have d4:(gF 9)=.bool false:=hdep ⟨4,.guard⟩ (by simp) rfl _ _ rfl rfl
    clear hag hdep
    exact relStep_skip (j:=4) (want:=true) (t:=9) rfl rfl (by rw[d4];simp[boolOf,undef]) ⟨Ext.refl _,rfl⟩
   ·cases ho
    have d5:(gF 10)=undef:=hdep ⟨5,.data⟩ (by simp) rfl _ _ rfl rfl
    have d7:(gF 12)=undef:=hdep ⟨7,.data⟩ (by simp) rfl _ _ rfl rfl
    have d4:(gF 9)=.bool false:=hdep ⟨4,.guard⟩ (by simp) rfl _ _ rfl rfl
    clear hag hdep
    exact relStep_skip (j:=4) (want:=true) (t:=9) rfl rfl (by rw[d4];simp[boolOf,undef]) ⟨Ext.refl _,rfl⟩
   ·cases ho
    have d8:(gF 13)=undef:=hdep ⟨8,.data⟩ (by simp) rfl _ _ rfl rfl
    have d4:(gF 9)=.bool false:=hdep ⟨4,.guard⟩ (by simp) rfl _ _ rfl rfl
    clear hag hdep
    exact relStep_skip (j:=4) (want:=true) (t:=9) rfl rfl (by rw[d4];simp[boolOf,undef]) ⟨Ext.refl _,rfl⟩
   cases ho
   have d4:(gF 9)=.bool false:=hdep ⟨4,.data⟩ (by simp) rfl _ _ rfl rfl
   have d9:(gF 14)=undef:=hdep ⟨9,.data⟩ (by simp) rfl _ _ rfl rfl
   clear hag hdep
   refine relStep_off rfl ?_
   rotate_left
   cases ho
   have d10:(gF 15)=.bool false:=hdep ⟨10,.data⟩ (by simp) rfl _ _ rfl rfl
   clear hag hdep
   refine relStep_off rfl ?_
   rotate_left
   ·cases ho
    have a2:=hag.at 2 KR
    simp only[S5,↓reduceIte,Nat.reduceEqDiff,initF, *] at a2
    have d11:(gF 16)=.bool false:=hdep ⟨11,.guard⟩ (by simp) rfl _ _ rfl rfl
    clear hag hdep
    exact relStep_skip (j:=11) (want:=true) (t:=16) rfl rfl (by rw[d11];simp[boolOf,undef]) ⟨Ext.refl _,rfl⟩
   ·cases ho
    have d12:(gF 17)=undef:=hdep ⟨12,.data⟩ (by simp) rfl _ _ rfl rfl
    have d11:(gF 16)=.bool false:=hdep ⟨11,.guard⟩ (by simp) rfl _ _ rfl rfl
    clear hag hdep
    exact relStep_skip (j:=11) (want:=true) (t:=16) rfl rfl (by rw[d11];simp[boolOf,undef]) ⟨Ext.refl _,rfl⟩
   ·cases ho
    have d13:(gF 18)=undef:=hdep ⟨13,.data⟩ (by simp) rfl _ _ rfl rfl
    have d11:(gF 16)=.bool false:=hdep ⟨11,.guard⟩ (by simp) rfl _ _ rfl rfl
    clear hag hdep
    exact relStep_skip (j:=11) (want:=true) (t:=16) rfl rfl (by rw[d11];simp[boolOf,undef]) ⟨Ext.refl _,rfl⟩
   ·cases ho
    have d14:(gF 19)=undef:=hdep ⟨14,.data⟩ (by simp) rfl _ _ rfl rfl
    have d11:(gF 16)=.bool false:=hdep ⟨11,.guard⟩ (by simp) rfl _ _ rfl rfl
    clear hag hdep
    exact relStep_skip (j:=11) (want:=true) (t:=16) rfl rfl (by rw[d11];simp[boolOf,undef]) ⟨Ext.refl _,rfl⟩
   cases ho
   have d11:(gF 16)=.bool false:=hdep ⟨11,.data⟩ (by simp) rfl _ _ rfl rfl
   have d15:(gF 20)=undef:=hdep ⟨15,.data⟩ (by simp) rfl _ _ rfl rfl
   clear hag hdep
   refine relStep_off rfl ?_
   rotate_left
   ·omega
   all_goals (repeat' first|(with_reducible first|exact⟨⟩|(refine gB ?_;intros)|refine gT ?_ ?_)|refine gs ?_|((with_reducible refine at_f 206 ?_);refine ret_k (hin.out _ _ _ FR FR (Nat.le_refl _) (row_sl hb2 rfl (by simp))) λ_ _ _=>?_)|((with_reducible refine at_f 80 ?_);refine ret_k (stepReplica) λ_ _ _=>?_)|refine sxStep22 ?_)
  ·intro g9 w9 hx9 hR hag
   have⟨s9,n9,r9,z9⟩:=bg9 hx9
   have d16:(g9 21)=.bool false:=hR 16 _ _ (by decide) rfl rfl
   clear hag hR
   simp only[List.drop_succ_cons,List.drop_zero]
   (repeat' first|(with_reducible first|exact⟨⟩|(refine gB ?_;intros)|refine gT ?_ ?_)|refine gs ?_|refine sx ?_)
 ·cases h
  ·skip
   unfold wpdH
   refine wpd_rel 17 (λiI v w9=>match iI with
    |0=>v=.agg #[hv,rv]
    |1=>v=stepV st
    |2=>∃b,v=.slice (some ⟨b,0,none⟩) 1 1∧Blk w9 b 80 [.int .u8 0]∧w3.heap.size≤b
    |3=>v=.bool true
    |4=>v=.bool true
    |5=>v=.agg #[hv,rv]
    |6=>v=stepV st
    |7=>v=replicaV (replOf st)
    |8=>v=.bool false
    |9=>v=.bool true
    |10=>v=.bool true
    |11=>v=.bool true
    |12=>v=.pointer (some ⟨b2,1,none⟩)
    |13=>v=rv
    |14=>v=natV x.replicas.length
    |15=>v=.bool (decide (x.replicas.length<24))
    |16=>v=.bool (decide (x.replicas.length<24))
    |_=>False) KR KR KR ?_ ?_ ?_
   ·intro iI v w1 w2 hR hx9
    match iI,hR with
    |0,h|1,h=>exact h
    |2,⟨b,e,h1,h2⟩=>exact⟨b,e,h1.ext hx9,h2⟩
    |3,h|4,h|5,h|6,h|7,h|8,h|9,h|10,h|11,h|12,h|13,h|14,h|15,h|16,h=>exact h
   ·intro iI oO hi ho gF w9 hx9 hdep hag
    have⟨s9,n9,r9,z9⟩:=bg9 hx9
    rcases iI with _|_|_|_|_|_|_|_|_|_|_|_|_|_|_|_|_|iI
    cases ho
    have a2:=hag.at 2 KR
    simp only[S5,↓reduceIte,Nat.reduceEqDiff,initF, *] at a2
    clear hag hdep
    refine relStep_off rfl ?_
    rotate_left
    cases ho
    have a3:=hag.at 3 KR
    simp only[S5,↓reduceIte,Nat.reduceEqDiff,initF, *] at a3
    clear hag hdep
    refine relStep_off rfl ?_
    rotate_left
    ·cases ho
     clear hag hdep
     refine relStep_off rfl ?_
     (repeat' first|(with_reducible first|exact⟨⟩|(refine gB ?_;intros)|refine gT ?_ ?_)|refine gs ?_|((with_reducible refine at_f 206 ?_);refine ret_k (hin.out _ _ _ FR FR (Nat.le_refl _) (row_sl hb2 rfl (by simp))) λ_ _ _=>?_)|((with_reducible refine at_f 80 ?_);refine ret_k (stepReplica) λ_ _ _=>?_)|((with_reducible refine at_f 131 ?_);refine ret_k (hha.out _ FR FR) λ_ _ _=>?_)|refine sxStep22 ?_)
     first
      |(rename_i b10 w10 n10 k10 s10 q10;exact⟨_,rfl,k10.2.1 _ k10.2.2.1,FR⟩)
      |(rename_i b10 w10 n10 k10 s10 q10 l10;exact⟨_,rfl,k10.2.1 _ k10.2.2.1,FR⟩)
    cases ho
    have d0:(gF 5)=.agg #[hv,rv]:=hdep ⟨0,.data⟩ (by simp) rfl _ _ rfl rfl
    have d1:(gF 6)=stepV st:=hdep ⟨1,.data⟩ (by simp) rfl _ _ rfl rfl
    obtain⟨b2,e2,hb2,q2⟩:=hdep ⟨2,.data⟩ (by simp) rfl _ _ rfl rfl
    have k2:=hb2.bk
    have nw2:=Nw.of q2
    clear hag hdep
    refine relStep_off rfl ?_
    rotate_left
    cases ho
    have d3:(gF 8)=.bool true:=hdep ⟨3,.data⟩ (by simp) rfl _ _ rfl rfl
    clear hag hdep
    refine relStep_off rfl ?_
    rotate_left
    cases ho
    have a2:=hag.at 2 KR
    simp only[S5,↓reduceIte,Nat.reduceEqDiff,initF, *] at a2
    have d4:(gF 9)=.bool true:=hdep ⟨4,.guard⟩ (by simp) rfl _ _ rfl rfl
    clear hag hdep
    refine relStep_on (j:=4) (want:=true) (t:=9) rfl rfl (by rw[d4];rfl) ?_
    rotate_left
    cases ho
    have a3:=hag.at 3 KR
    simp only[S5,↓reduceIte,Nat.reduceEqDiff,initF, *] at a3
    have d4:(gF 9)=.bool true:=hdep ⟨4,.guard⟩ (by simp) rfl _ _ rfl rfl
    clear hag hdep
    refine relStep_on (j:=4) (want:=true) (t:=9) rfl rfl (by rw[d4];rfl) ?_
    rotate_left
    cases ho
    have d6:(gF 11)=stepV st:=hdep ⟨6,.data⟩ (by simp) rfl _ _ rfl rfl
    have d4:(gF 9)=.bool true:=hdep ⟨4,.guard⟩ (by simp) rfl _ _ rfl rfl
    clear hag hdep
    refine relStep_on (j:=4) (want:=true) (t:=9) rfl rfl (by rw[d4];rfl) ?_
    rotate_left
    cases ho
    have d5:(gF 10)=.agg #[hv,rv]:=hdep ⟨5,.data⟩ (by simp) rfl _ _ rfl rfl
    have d7:(gF 12)=replicaV (replOf st):=hdep ⟨7,.data⟩ (by simp) rfl _ _ rfl rfl
    have d4:(gF 9)=.bool true:=hdep ⟨4,.guard⟩ (by simp) rfl _ _ rfl rfl
    clear hag hdep
    refine relStep_on (j:=4) (want:=true) (t:=9) rfl rfl (by rw[d4];rfl) ?_
    rotate_left
    cases ho
    have d8:(gF 13)=.bool false:=hdep ⟨8,.data⟩ (by simp) rfl _ _ rfl rfl
    have d4:(gF 9)=.bool true:=hdep ⟨4,.guard⟩ (by simp) rfl _ _ rfl rfl
    clear hag hdep
    refine relStep_on (j:=4) (want:=true) (t:=9) rfl rfl (by rw[d4];rfl) ?_
    rotate_left
    cases ho
    have d4:(gF 9)=.bool true:=hdep ⟨4,.data⟩ (by simp) rfl _ _ rfl rfl
    have d9:(gF 14)=.bool true:=hdep ⟨9,.data⟩ (by simp) rfl _ _ rfl rfl
    clear hag hdep
    refine relStep_off rfl ?_
    rotate_left
    cases ho
    have d10:(gF 15)=.bool true:=hdep ⟨10,.data⟩ (by simp) rfl _ _ rfl rfl
    clear hag hdep
    refine relStep_off rfl ?_
    rotate_left
    cases ho
    have a2:=hag.at 2 KR
    simp only[S5,↓reduceIte,Nat.reduceEqDiff,initF, *] at a2
    have d11:(gF 16)=.bool true:=hdep ⟨11,.guard⟩ (by simp) rfl _ _ rfl rfl
    clear hag hdep
    refine relStep_on (j:=11) (want:=true) (t:=16) rfl rfl (by rw[d11];rfl) ?_
    rotate_left
    cases ho
    have d12:(gF 17)=.pointer (some ⟨b2,1,none⟩):=hdep ⟨12,.data⟩ (by simp) rfl _ _ rfl rfl
    have d11:(gF 16)=.bool true:=hdep ⟨11,.guard⟩ (by simp) rfl _ _ rfl rfl
    clear hag hdep
    refine relStep_on (j:=11) (want:=true) (t:=16) rfl rfl (by rw[d11];rfl) ?_
    rotate_left
    cases ho
    have d13:(gF 18)=rv:=hdep ⟨13,.data⟩ (by simp) rfl _ _ rfl rfl
    have d11:(gF 16)=.bool true:=hdep ⟨11,.guard⟩ (by simp) rfl _ _ rfl rfl
    clear hag hdep
    refine relStep_on (j:=11) (want:=true) (t:=16) rfl rfl (by rw[d11];rfl) ?_
    rotate_left
    cases ho
    have d14:(gF 19)=natV x.replicas.length:=hdep ⟨14,.data⟩ (by simp) rfl _ _ rfl rfl
    have d11:(gF 16)=.bool true:=hdep ⟨11,.guard⟩ (by simp) rfl _ _ rfl rfl
    clear hag hdep
    refine relStep_on (j:=11) (want:=true) (t:=16) rfl rfl (by rw[d11];rfl) ?_
    rotate_left
    cases ho
    have d11:(gF 16)=.bool true:=hdep ⟨11,.data⟩ (by simp) rfl _ _ rfl rfl
    have d15:(gF 20)=.bool (decide (x.replicas.length<24)):=hdep ⟨15,.data⟩ (by simp) rfl _ _ rfl rfl
    clear hag hdep
    refine relStep_off rfl ?_
    rotate_left
    ·omega
    all_goals (repeat' first|(with_reducible first|exact⟨⟩|(refine gB ?_;intros)|refine gT ?_ ?_)|refine gs ?_|((with_reducible refine at_f 206 ?_);refine ret_k (hin.out _ _ _ FR FR (Nat.le_refl _) (row_sl hb2 rfl (by simp))) λ_ _ _=>?_)|((with_reducible refine at_f 80 ?_);refine ret_k (stepReplica) λ_ _ _=>?_)|((with_reducible refine at_f 131 ?_);refine ret_k (hha.out _ FR FR) λ_ _ _=>?_)|refine sxStep22 ?_)
   ·intro g9 w9 hx9 hR hag
    have⟨s9,n9,r9,z9⟩:=bg9 hx9
    have d16:(g9 21)=.bool (decide (x.replicas.length<24)):=hR 16 _ _ (by decide) rfl rfl
    clear hag hR
    simp only[List.drop_succ_cons,List.drop_zero]
    (repeat' first|(with_reducible first|exact⟨⟩|(refine gB ?_;intros)|refine gT ?_ ?_)|refine gs ?_|refine sx ?_)
  ·skip
   unfold wpdH
   refine wpd_rel 17 (λiI v w9=>match iI with
    |0=>v=.agg #[hv,rv]
    |1=>v=stepV st
    |2=>∃b,v=.slice (some ⟨b,0,none⟩) 1 1∧Blk w9 b 80 [.int .u8 0]∧w3.heap.size≤b
    |3=>v=.bool true
    |4=>v=.bool true
    |5=>v=.agg #[hv,rv]
    |6=>v=stepV st
    |7=>v=replicaV (replOf st)
    |8=>v=.bool true
    |9=>v=.bool false
    |10=>v=.bool false
    |11=>v=.bool false
    |12=>v=undef
    |13=>v=undef
    |14=>v=undef
    |15=>v=undef
    |16=>v=.bool false
    |_=>False) KR KR KR ?_ ?_ ?_
   ·intro iI v w1 w2 hR hx9
    match iI,hR with
    |0,h|1,h=>exact h
    |2,⟨b,e,h1,h2⟩=>exact⟨b,e,h1.ext hx9,h2⟩
    |3,h|4,h|5,h|6,h|7,h|8,h|9,h|10,h|11,h|12,h|13,h|14,h|15,h|16,h=>exact h
   ·intro iI oO hi ho gF w9 hx9 hdep hag
    have⟨s9,n9,r9,z9⟩:=bg9 hx9
    rcases iI with _|_|_|_|_|_|_|_|_|_|_|_|_|_|_|_|_|iI
    cases ho
    have a2:=hag.at 2 KR
    simp only[S5,↓reduceIte,Nat.reduceEqDiff,initF, *] at a2
    clear hag hdep
    refine relStep_off rfl ?_
    rotate_left
    cases ho
    have a3:=hag.at 3 KR
    simp only[S5,↓reduceIte,Nat.reduceEqDiff,initF, *] at a3
    clear hag hdep
    refine relStep_off rfl ?_
    rotate_left
    ·cases ho
     clear hag hdep
     refine relStep_off rfl ?_
     (repeat' first|(with_reducible first|exact⟨⟩|(refine gB ?_;intros)|refine gT ?_ ?_)|refine gs ?_|((with_reducible refine at_f 206 ?_);refine ret_k (hin.out _ _ _ FR FR (Nat.le_refl _) (row_sl hb2 rfl (by simp))) λ_ _ _=>?_)|((with_reducible refine at_f 80 ?_);refine ret_k (stepReplica) λ_ _ _=>?_)|((with_reducible refine at_f 131 ?_);refine ret_k (hha.out _ FR FR) λ_ _ _=>?_)|refine sxStep22 ?_)
     first
      |(rename_i b10 w10 n10 k10 s10 q10;exact⟨_,rfl,k10.2.1 _ k10.2.2.1,FR⟩)
      |(rename_i b10 w10 n10 k10 s10 q10 l10;exact⟨_,rfl,k10.2.1 _ k10.2.2.1,FR⟩)
    cases ho
    have d0:(gF 5)=.agg #[hv,rv]:=hdep ⟨0,.data⟩ (by simp) rfl _ _ rfl rfl
    have d1:(gF 6)=stepV st:=hdep ⟨1,.data⟩ (by simp) rfl _ _ rfl rfl
    obtain⟨b2,e2,hb2,q2⟩:=hdep ⟨2,.data⟩ (by simp) rfl _ _ rfl rfl
    have k2:=hb2.bk
    have nw2:=Nw.of q2
    clear hag hdep
    refine relStep_off rfl ?_
    rotate_left
    cases ho
    have d3:(gF 8)=.bool true:=hdep ⟨3,.data⟩ (by simp) rfl _ _ rfl rfl
    clear hag hdep
    refine relStep_off rfl ?_
    rotate_left
    cases ho
    have a2:=hag.at 2 KR
    simp only[S5,↓reduceIte,Nat.reduceEqDiff,initF, *] at a2
    have d4:(gF 9)=.bool true:=hdep ⟨4,.guard⟩ (by simp) rfl _ _ rfl rfl
    clear hag hdep
    refine relStep_on (j:=4) (want:=true) (t:=9) rfl rfl (by rw[d4];rfl) ?_
    rotate_left
    cases ho
    have a3:=hag.at 3 KR
    simp only[S5,↓reduceIte,Nat.reduceEqDiff,initF, *] at a3
    have d4:(gF 9)=.bool true:=hdep ⟨4,.guard⟩ (by simp) rfl _ _ rfl rfl
    clear hag hdep
    refine relStep_on (j:=4) (want:=true) (t:=9) rfl rfl (by rw[d4];rfl) ?_
    rotate_left
    cases ho
    have d6:(gF 11)=stepV st:=hdep ⟨6,.data⟩ (by simp) rfl _ _ rfl rfl
    have d4:(gF 9)=.bool true:=hdep ⟨4,.guard⟩ (by simp) rfl _ _ rfl rfl
    clear hag hdep
    refine relStep_on (j:=4) (want:=true) (t:=9) rfl rfl (by rw[d4];rfl) ?_
    rotate_left
    cases ho
    have d5:(gF 10)=.agg #[hv,rv]:=hdep ⟨5,.data⟩ (by simp) rfl _ _ rfl rfl
    have d7:(gF 12)=replicaV (replOf st):=hdep ⟨7,.data⟩ (by simp) rfl _ _ rfl rfl
    have d4:(gF 9)=.bool true:=hdep ⟨4,.guard⟩ (by simp) rfl _ _ rfl rfl
    clear hag hdep
    refine relStep_on (j:=4) (want:=true) (t:=9) rfl rfl (by rw[d4];rfl) ?_
    rotate_left
    cases ho
    have d8:(gF 13)=.bool true:=hdep ⟨8,.data⟩ (by simp) rfl _ _ rfl rfl
    have d4:(gF 9)=.bool true:=hdep ⟨4,.guard⟩ (by simp) rfl _ _ rfl rfl
    clear hag hdep
    refine relStep_on (j:=4) (want:=true) (t:=9) rfl rfl (by rw[d4];rfl) ?_
    rotate_left
    cases ho
    have d4:(gF 9)=.bool true:=hdep ⟨4,.data⟩ (by simp) rfl _ _ rfl rfl
    have d9:(gF 14)=.bool false:=hdep ⟨9,.data⟩ (by simp) rfl _ _ rfl rfl
    clear hag hdep
    refine relStep_off rfl ?_
    rotate_left
    cases ho
    have d10:(gF 15)=.bool false:=hdep ⟨10,.data⟩ (by simp) rfl _ _ rfl rfl
    clear hag hdep
    refine relStep_off rfl ?_
    rotate_left
    ·cases ho
     have a2:=hag.at 2 KR
     simp only[S5,↓reduceIte,Nat.reduceEqDiff,initF, *] at a2
     have d11:(gF 16)=.bool false:=hdep ⟨11,.guard⟩ (by simp) rfl _ _ rfl rfl
     clear hag hdep
     exact relStep_skip (j:=11) (want:=true) (t:=16) rfl rfl (by rw[d11];simp[boolOf,undef]) ⟨Ext.refl _,rfl⟩
    ·cases ho
     have d12:(gF 17)=undef:=hdep ⟨12,.data⟩ (by simp) rfl _ _ rfl rfl
     have d11:(gF 16)=.bool false:=hdep ⟨11,.guard⟩ (by simp) rfl _ _ rfl rfl
     clear hag hdep
     exact relStep_skip (j:=11) (want:=true) (t:=16) rfl rfl (by rw[d11];simp[boolOf,undef]) ⟨Ext.refl _,rfl⟩
    ·cases ho
     have d13:(gF 18)=undef:=hdep ⟨13,.data⟩ (by simp) rfl _ _ rfl rfl
     have d11:(gF 16)=.bool false:=hdep ⟨11,.guard⟩ (by simp) rfl _ _ rfl rfl
     clear hag hdep
     exact relStep_skip (j:=11) (want:=true) (t:=16) rfl rfl (by rw[d11];simp[boolOf,undef]) ⟨Ext.refl _,rfl⟩
    ·cases ho
     have d14:(gF 19)=undef:=hdep ⟨14,.data⟩ (by simp) rfl _ _ rfl rfl
     have d11:(gF 16)=.bool false:=hdep ⟨11,.guard⟩ (by simp) rfl _ _ rfl rfl
     clear hag hdep
     exact relStep_skip (j:=11) (want:=true) (t:=16) rfl rfl (by rw[d11];simp[boolOf,undef]) ⟨Ext.refl _,rfl⟩
    cases ho
    have d11:(gF 16)=.bool false:=hdep ⟨11,.data⟩ (by simp) rfl _ _ rfl rfl
    have d15:(gF 20)=undef:=hdep ⟨15,.data⟩ (by simp) rfl _ _ rfl rfl
    clear hag hdep
    refine relStep_off rfl ?_
    rotate_left
    ·omega
    all_goals (repeat' first|(with_reducible first|exact⟨⟩|(refine gB ?_;intros)|refine gT ?_ ?_)|refine gs ?_|((with_reducible refine at_f 206 ?_);refine ret_k (hin.out _ _ _ FR FR (Nat.le_refl _) (row_sl hb2 rfl (by simp))) λ_ _ _=>?_)|((with_reducible refine at_f 80 ?_);refine ret_k (stepReplica) λ_ _ _=>?_)|((with_reducible refine at_f 131 ?_);refine ret_k (hha.out _ FR FR) λ_ _ _=>?_)|refine sxStep22 ?_)
   ·intro g9 w9 hx9 hR hag
    have⟨s9,n9,r9,z9⟩:=bg9 hx9
    have d16:(g9 21)=.bool false:=hR 16 _ _ (by decide) rfl rfl
    clear hag hR
    simp only[List.drop_succ_cons,List.drop_zero]
    (repeat' first|(with_reducible first|exact⟨⟩|(refine gB ?_;intros)|refine gT ?_ ?_)|refine gs ?_|refine sx ?_)
end
section
variable{w:World}{B:Nat}{u:SiteVs}{s:SiteD}{wv hv rv:Value}{l:List SrvV}{x:WorldD}{st:StepD}{wl:List ServiceD}
theorem one_func(f:Fn)(a b:Array Value):(Value.func f a b).oneCell'=true:=rfl
theorem stepRule(hk:1≤st.kind∧st.kind≤7)(hh:0≤st.host∧st.host<x.hosts.length):∃r,ruleD st.kind=some r∧callable Tryz.prog r.fn=true∧∀w' B hv rv,B≤w'.heap.size→WorldR w' B hv rv x→Ret Tryz.prog r.fn #[.agg #[hv,rv],stepV st] w' (.bool (readyK x st)):=by
 have key:∀k:Int,st.kind=k→(k=1∨k=2∨k=3∨k=4∨k=5∨k=6∨k=7)→∃r,ruleD k=some r∧callable Tryz.prog r.fn=true∧∀w' B hv rv,B≤w'.heap.size→WorldR w' B hv rv x→Ret Tryz.prog r.fn #[.agg #[hv,rv],stepV st] w' (.bool (readyK x st)):=by
  intro k he hk
  rcases hk with rfl|rfl|rfl|rfl|rfl|rfl|rfl
  ·refine⟨⟨1,true,false,205⟩,rfl,by kernel_rfl,λw' B hv rv hB hX=>?_⟩
   rw[show readyK x st=_ from by unfold readyK;rw[if_pos he]]
   exact rules1 hB hX hh
  ·refine⟨⟨2,true,false,207⟩,rfl,by kernel_rfl,λw' B hv rv hB hX=>?_⟩
   have e:readyK x st=hasB x.replicas (replOf st):=by simp[readyK,he]
   rw[e];exact rules2 hB hX
  ·refine⟨⟨3,false,false,208⟩,rfl,by kernel_rfl,λw' B hv rv hB hX=>?_⟩
   have e:readyK x st=((hostAt x st.host).phase == 0):=by simp[readyK,he]
   rw[e];exact rules3 hB hX hh
  ·refine⟨⟨4,false,false,209⟩,rfl,by kernel_rfl,λw' B hv rv hB hX=>?_⟩
   have e:readyK x st=((hostAt x st.host).phase == 1&&!runsB x st.host):=by simp[readyK,he]
   rw[e];exact rules4 hB hX hh
  ·refine⟨⟨5,false,false,210⟩,rfl,by kernel_rfl,λw' B hv rv hB hX=>?_⟩
   have e:readyK x st=((hostAt x st.host).phase == 2&&!runsB x st.host):=by simp[readyK,he]
   rw[e];exact rules5 hB hX hh
  ·refine⟨⟨6,false,false,211⟩,rfl,by kernel_rfl,λw' B hv rv hB hX=>?_⟩
   have e:readyK x st=((hostAt x st.host).phase == 1||(hostAt x st.host).phase == 2||(hostAt x st.host).phase == 3):=by simp[readyK,he]
   rw[e];exact rules6 hB hX hh
  ·refine⟨⟨7,false,true,212⟩,rfl,by kernel_rfl,λw' B hv rv hB hX=>?_⟩
   have e:readyK x st=((hostAt x st.host).phase == 2):=by simp[readyK,he]
   rw[e];exact rules7 hB hX hh
 exact key st.kind rfl (by omega)
theorem stepReady(hB:B≤w.heap.size)(hs:SiteR w B u s)(hl:WishR w B wv l)(hx0:WorldR w B hv rv x):Ret Tryz.prog 78 #[.agg (siteC u s).toArray,.agg #[wv],.agg #[hv,rv],stepV st] w (.bool (readyB s (l.map (·.x)) x st)):=by
 have⟨hn,hx⟩:=bg0 w
 have hs':=hs.sk hB
 have hl':=hl.sk hB
 have hx':=hx0.sk hB
 have hS:=hs'.2.2.2.2.2.2
 have hW:=hl'.2.2
 have hX:=hx'.2.2.2.2
 have hv1:=λw' (h1:Bl B w w') (h3:B≤w'.heap.size)=>stepValid (st:=st) h3 (hS w' h1) (hW w' h1)
 simp only[stepB_eq] at hv1
 have hv2:=λw' (h1:Bl B w w') (h3:B≤w'.heap.size)=>worldValid h3 (hS w' h1) (hW w' h1) (hX w' h1)
 have hr:readyB s (l.map (·.x)) x st=(stepB2 s (l.map (·.x)) st&&validB s (l.map (·.x)) x&&readyK x st):=rfl
 have hp:stepB2 s (l.map (·.x)) st=true→validB s (l.map (·.x)) x=true→Hid ((1≤st.kind∧st.kind≤7)∧(0≤st.host∧st.host<x.hosts.length)):=λh1 h2=>by
  have a:=step_parts h1
  have b:=valid_parts h2
  exact⟨a.1,a.2.2.2.1,by omega⟩
 rw[hr]
 clear hr
 generalize stepB2 s (l.map (·.x)) st=sb at *
 generalize validB s (l.map (·.x)) x=vb at *
 (refine callsV_of Tryz.func78 rfl KR KR ?_;rw[Tryz.results78])
 cases sb
 ·clear hv2 hp
  (repeat' first|(with_reducible first|exact⟨⟩|(refine gB ?_;intros)|refine gT ?_ ?_)|refine gs ?_|((with_reducible refine at_f 77 ?_);refine ret_k (hv1 _ FR FR) λ_ _ _=>?_)|refine sxStep23 ?_)
 ·cases vb
  ·clear hp
   (repeat' first|(with_reducible first|exact⟨⟩|(refine gB ?_;intros)|refine gT ?_ ?_)|refine gs ?_|((with_reducible refine at_f 77 ?_);refine ret_k (hv1 _ FR FR) λ_ _ _=>?_)|((with_reducible refine at_f 53 ?_);refine ret_k (hv2 _ FR FR) λ_ _ _=>?_)|refine sxStep23 ?_)
  ·have hq:=hp rfl rfl
   clear hp
   obtain⟨r,hr1,hr2,hr3⟩:=stepRule (x:=x) (st:=st) hq.out.1 hq.out.2
   replace hr3:Hid _:=hr3
   replace hr1:Hid _:=hr1
   (repeat' first|(with_reducible first|exact⟨⟩|(refine gB ?_;intros)|refine gT ?_ ?_)|refine gs ?_|((with_reducible refine at_f 77 ?_);refine ret_k (hv1 _ FR FR) λ_ _ _=>?_)|((with_reducible refine at_f 53 ?_);refine ret_k (hv2 _ FR FR) λ_ _ _=>?_)|refine sxStep23 ?_)
   refine call_k stepFind ?_
   intro v w5 n5 s5 hv
   rw[hr1.out] at hv
   dsimp only at hv
   subst hv
   clear hv1 hv2
   have hof:=one_func
   (repeat' first|(with_reducible first|exact⟨⟩|(refine gB ?_;intros)|refine gT ?_ ?_)|refine gs ?_|simp(maxDischargeDepth:=3) only[↓X,↓Y,↓Q,S1,↓reduceIte,Nat.reduceEqDiff,Nat.reduceAdd,Int.reduceLT,Int.reduceLE,Int.reduceNeg,Int.reduceBEq,Int.reduceBNe,Int.reduceEq,Nat.reduceLeDiff,Nat.reduceMul,Nat.reduceLT, *,ruleV,ruleC]|simp(singlePass:=true) (maxDischargeDepth:=99) only[*,S2,Nat.reduceLT,ruleV,ruleC])
   refine ret_k (hr3.out _ B hv rv FR (hX _ FR)) λw9 n9 s9=>?_
   (repeat' first|(with_reducible first|exact⟨⟩|(refine gB ?_;intros)|refine gT ?_ ?_)|refine gs ?_|refine sx ?_)
theorem apply_parts(h:readyB s wl x st=true):x.hosts.length≤1000000∧x.replicas.length≤1000000:=by
 have o:=rdy_ok h
 have b:=valid_parts o.val
 have c:=(step_parts o.ok).2.1
 have d:s.hosts.length≤16:=by
  simp only[siteB,sizesB,btw,Bool.and_eq_true,decide_eq_true_eq] at c
  omega
 have:=o.len
 omega
theorem stepApply(hB:B≤w.heap.size)(hs:SiteR w B u s)(hl:WishR w B wv l)(hx0:WorldR w B hv rv x):CallsV Tryz.prog 40 #[.agg (siteC u s).toArray,.agg #[wv],.agg #[hv,rv],stepV st] w λv w'=>Ext w w'∧∃v0,v=.tuple #[v0,intV (applyE s (l.map (·.x)) x st)]∧OwnW w.heap.size v0 w' (applyW s (l.map (·.x)) x st):=by
 have⟨hn,hx⟩:=bg0 w
 have hs':=hs.sk hB
 have hl':=hl.sk hB
 have hx':=hx0.sk hB
 have hS:=hs'.2.2.2.2.2.2
 have hW:=hl'.2.2
 have hX:=hx'.2.2.2.2
 have hv1:=λw' (h1:Bl B w w') (h3:B≤w'.heap.size)=>stepValid (st:=st) h3 (hS w' h1) (hW w' h1)
 simp only[stepB_eq] at hv1
 have hv2:=λw' (h1:Bl B w w') (h3:B≤w'.heap.size)=>worldValid h3 (hS w' h1) (hW w' h1) (hX w' h1)
 have hv3:=λw' (h1:Bl B w w') (h3:B≤w'.heap.size)=>stepReady (st:=st) h3 (hS w' h1) (hW w' h1) (hX w' h1)
 have hr:readyB s (l.map (·.x)) x st=(stepB2 s (l.map (·.x)) st&&validB s (l.map (·.x)) x&&readyK x st):=rfl
 have hp:readyB s (l.map (·.x)) x st=true→Hid (RdyOk s (l.map (·.x)) x st∧applyE s (l.map (·.x)) x st=0∧(x.hosts.length≤1000000∧x.replicas.length≤1000000)
  ∧ (st.kind=1→startE x (replOf st)=0∧applyW s (l.map (·.x)) x st=startW x (replOf st))∧(st.kind=2→stopE x (replOf st)=0∧applyW s (l.map (·.x)) x st=stopW x (replOf st))
  ∧ (st.kind≠1→st.kind≠2→setE x st.host=0∧applyW s (l.map (·.x)) x st=setW x st.host (newState (hostAt x st.host) st))):=λh=>by
  refine⟨rdy_ok h,apply_zero h,apply_parts h,λh1=>?_,λh2=>?_,λh1 h2=>?_⟩
  ·have:=start_parts h h1
   exact⟨this.2.2.2.1,by rw[applyW,if_pos h,if_pos h1]⟩
  ·have:=stop_parts h h2
   exact⟨this.2.1,by rw[applyW,if_pos h,if_neg (by omega),if_pos h2]⟩
  ·exact⟨by simp[setE,set_ok (rdy_ok h)],by rw[applyW,if_pos h,if_neg h1,if_neg h2]⟩
 have hn1:(stepB2 s (l.map (·.x)) st&&validB s (l.map (·.x)) x)=false→Hid (applyE s (l.map (·.x)) x st=1∧applyW s (l.map (·.x)) x st=noW):=λh=>⟨by unfold applyE;rw[if_neg (by simp[h])],by unfold applyW;rw[if_neg (by rw[hr,h];simp)]⟩
 have hn2:(stepB2 s (l.map (·.x)) st&&validB s (l.map (·.x)) x)=true→readyK x st=false→Hid (applyE s (l.map (·.x)) x st=8∧applyW s (l.map (·.x)) x st=noW):=λh h2=>⟨by unfold applyE;rw[if_pos h,if_neg (by simp[h2])],by unfold applyW;rw[if_neg (by rw[hr,h,h2];simp)]⟩
 rw[hr] at hp
 simp only[hr] at hv3
 clear hr
 generalize stepB2 s (l.map (·.x)) st=sb at *
 generalize validB s (l.map (·.x)) x=vb at *
 generalize readyK x st=rk at *
 generalize applyE s (l.map (·.x)) x st=E at *
 generalize applyW s (l.map (·.x)) x st=W at *
 (refine callsV_of Tryz.func40 rfl KR KR ?_;rw[Tryz.results40])
 cases sb
 ·obtain⟨rfl,rfl⟩:=(hn1 rfl).out
  clear hv2 hv3 hp hn1 hn2
  (repeat' first|(with_reducible first|exact⟨⟩|(refine gB ?_;intros)|refine gT ?_ ?_)|refine gs ?_|((with_reducible refine at_f 77 ?_);refine ret_k (hv1 _ FR FR) λ_ _ _=>?_)|refine sxStep23 ?_)
  exact⟨_,rfl,OwnW.none _ _⟩
 ·cases vb
  ·obtain⟨rfl,rfl⟩:=(hn1 rfl).out
   clear hv3 hp hn1 hn2
   (repeat' first|(with_reducible first|exact⟨⟩|(refine gB ?_;intros)|refine gT ?_ ?_)|refine gs ?_|((with_reducible refine at_f 77 ?_);refine ret_k (hv1 _ FR FR) λ_ _ _=>?_)|((with_reducible refine at_f 53 ?_);refine ret_k (hv2 _ FR FR) λ_ _ _=>?_)|refine sxStep23 ?_)
   exact⟨_,rfl,OwnW.none _ _⟩
  ·cases rk
   ·obtain⟨rfl,rfl⟩:=(hn2 rfl rfl).out
    clear hp hn1 hn2
    (repeat' first|(with_reducible first|exact⟨⟩|(refine gB ?_;intros)|refine gT ?_ ?_)|refine gs ?_|((with_reducible refine at_f 77 ?_);refine ret_k (hv1 _ FR FR) λ_ _ _=>?_)|((with_reducible refine at_f 53 ?_);refine ret_k (hv2 _ FR FR) λ_ _ _=>?_)|((with_reducible refine at_f 78 ?_);refine ret_k (hv3 _ FR FR) λ_ _ _=>?_)|refine sxStep23 ?_)
    exact⟨_,rfl,OwnW.none _ _⟩
   ·have hq:=hp rfl
    clear hp hn1 hn2
    obtain⟨kd,ho,sv,vr⟩:=st
    obtain⟨k,rfl⟩:∃k:Nat,ho=k:=⟨ho.toNat,by have:=hq.out.1.host;simp only at this;omega⟩
    have hlt:k<x.hosts.length:=by have:=hq.out.1.host;simp only at this;omega
    have hat:Hid (hostAt x k=x.hosts[k]):=by show _=_;simp[hostAt,hlt]
    have hlen:Hid (x.hosts.length≤1000000∧x.replicas.length≤1000000):=hq.out.2.2.1
    have hkd:Hid (1≤kd∧kd≤7):=hq.out.1.kind
    have hst:Hid (kd=1→startE x ⟨sv,k⟩=0∧W=startW x ⟨sv,k⟩):=hq.out.2.2.2.1
    have hsp:Hid (kd=2→stopE x ⟨sv,k⟩=0∧W=stopW x ⟨sv,k⟩):=hq.out.2.2.2.2.1
    have hse:Hid (kd≠1→kd≠2→∀h,newState x.hosts[k] ⟨kd,k,sv,vr⟩=h→setE x k=0∧W=setW x k h):=λh1 h2 h e=>by
     have:=hq.out.2.2.2.2.2 h1 h2
     simp only[hat.out] at this
     rw[e] at this
     exact this
    obtain rfl:=hq.out.2.1
    clear hq hat
    (repeat' first|((with_reducible refine wpd_at 10 ?_);refine wpd_hold ?_)|((with_reducible refine wpd_at 8 ?_);refine wpd_hold ?_)|(with_reducible first|exact⟨⟩|(refine gB ?_;intros)|refine gT ?_ ?_)|refine gs ?_|((with_reducible refine at_f 77 ?_);refine ret_k (hv1 _ FR FR) λ_ _ _=>?_)|((with_reducible refine at_f 53 ?_);refine ret_k (hv2 _ FR FR) λ_ _ _=>?_)|((with_reducible refine at_f 78 ?_);refine ret_k (hv3 _ FR FR) λ_ _ _=>?_)|simp(maxDischargeDepth:=3) only[↓X,↓Y,↓Q,S1,↓reduceIte,Nat.reduceEqDiff,Nat.reduceAdd,Int.reduceLT,Int.reduceLE,Int.reduceNeg,Int.reduceBEq,Int.reduceBNe,Int.reduceEq,Nat.reduceLeDiff,Nat.reduceMul,Nat.reduceLT, *,siteC,stepV,stepC,stateV]|simp(singlePass:=true) (maxDischargeDepth:=99) only[*,S2,Nat.reduceLT,siteC,stepV,stepC,stateV])
    ·rename_i w3 n3 k3 s3 hk1
     obtain⟨e1,e2⟩:=hst.out (by assumption)
     replace e1:Hid _:=e1
     replace e2:Hid _:=e2
     clear hst hsp hse hkd hv1 hv2 hv3 hk1
     have hrep:∀w',Ret Tryz.prog 80 #[stepV ⟨kd,k,sv,vr⟩] w' (replicaV ⟨sv,k⟩):=λ_=>stepReplica
     unfold wpdH
     refine wpd_rel 6 (λiI v w9=>match iI with
      |0=>v=.agg #[hv,rv]
      |1=>v=stepV ⟨kd,k,sv,vr⟩
      |2=>v=replicaV ⟨sv,k⟩
      |3=>∃u0,v=.tuple #[u0,intV 0]∧OwnW w3.heap.size u0 w9 W
      |4=>OwnW w3.heap.size v w9 W
      |5=>v=intV 0
      |_=>False) KR KR KR ?_ ?_ ?_
     ·intro iI v w1 w2 hR hx9
      match iI,hR with
      |0,h|1,h|2,h=>exact h
      |3,h=>exact(let ⟨u0,e,o⟩:=h;⟨u0,e,o.ext hx9⟩)
      |4,h=>exact OwnW.ext h hx9
      |5,h=>exact h
     ·intro iI oO hi ho gF w9 hx9 hdep hag
      have⟨s9,n9,r9,z9⟩:=bg9 hx9
      rcases iI with _|_|_|_|_|_|iI
      ·cases ho
       have a6:=hag.at 6 KR
       simp only[S5,↓reduceIte,Nat.reduceEqDiff,initF, *] at a6
       clear hag hdep
       refine relStep_off rfl ?_
       (repeat' first|(with_reducible first|exact⟨⟩|(refine gB ?_;intros)|refine gT ?_ ?_)|refine gs ?_|((with_reducible refine at_f 80 ?_);refine ret_k (hrep _) λ_ _ _=>?_)|refine sxStep22 ?_)
      ·cases ho
       have a7:=hag.at 7 KR
       simp only[S5,↓reduceIte,Nat.reduceEqDiff,initF, *] at a7
       clear hag hdep
       refine relStep_off rfl ?_
       (repeat' first|(with_reducible first|exact⟨⟩|(refine gB ?_;intros)|refine gT ?_ ?_)|refine gs ?_|((with_reducible refine at_f 80 ?_);refine ret_k (hrep _) λ_ _ _=>?_)|refine sxStep22 ?_)
      ·cases ho
       have d1:(gF 42)=stepV ⟨kd,k,sv,vr⟩:=hdep ⟨1,.data⟩ (by simp) rfl _ _ rfl rfl
       clear hag hdep
       refine relStep_off rfl ?_
       (repeat' first|(with_reducible first|exact⟨⟩|(refine gB ?_;intros)|refine gT ?_ ?_)|refine gs ?_|((with_reducible refine at_f 80 ?_);refine ret_k (hrep _) λ_ _ _=>?_)|refine sxStep22 ?_)
      ·cases ho
       have d0:(gF 41)=.agg #[hv,rv]:=hdep ⟨0,.data⟩ (by simp) rfl _ _ rfl rfl
       have d2:(gF 43)=replicaV ⟨sv,k⟩:=hdep ⟨2,.data⟩ (by simp) rfl _ _ rfl rfl
       clear hag hdep
       refine relStep_off rfl ?_
       (repeat' first|(with_reducible first|exact⟨⟩|(refine gB ?_;intros)|refine gT ?_ ?_)|refine gs ?_|((with_reducible refine at_f 80 ?_);refine ret_k (hrep _) λ_ _ _=>?_)|refine sxStep22 ?_)
       refine CallsV.mono (worldStart (r:=⟨sv,k⟩) (B:=B) FR (hX _ FR) hlen.out.1 hlen.out.2) λv w10 hh=>⟨hh.1,?_⟩
       obtain⟨_,u0,rfl,ho⟩:=hh
       exact⟨u0,by rw[e1.out];rfl,by rw[e2.out];exact ho.more z9⟩
      ·cases ho
       obtain⟨u3,e3,o3⟩:=hdep ⟨3,.data⟩ (by simp) rfl _ _ rfl rfl
       clear hag hdep
       refine relStep_off rfl ?_
       (repeat' first|(with_reducible first|exact⟨⟩|(refine gB ?_;intros)|refine gT ?_ ?_)|refine gs ?_|((with_reducible refine at_f 80 ?_);refine ret_k (hrep _) λ_ _ _=>?_)|refine sxStep22 ?_)
       all_goals exact o3
      ·cases ho
       obtain⟨u3,e3,o3⟩:=hdep ⟨3,.data⟩ (by simp) rfl _ _ rfl rfl
       clear hag hdep
       refine relStep_off rfl ?_
       (repeat' first|(with_reducible first|exact⟨⟩|(refine gB ?_;intros)|refine gT ?_ ?_)|refine gs ?_|((with_reducible refine at_f 80 ?_);refine ret_k (hrep _) λ_ _ _=>?_)|refine sxStep22 ?_)
      ·omega
     ·intro g9 w9 hx9 hR hag
      have⟨s9,n9,r9,z9⟩:=bg9 hx9
      have d4:OwnW w3.heap.size (g9 45) w9 W:=hR 4 _ _ (by decide) rfl rfl
      obtain⟨h4,r4,e4,oh4,or4⟩:=d4
      have H4:=oh4.o
      have R4:=or4.o
      clear oh4 or4
      have d5:(g9 46)=intV 0:=hR 5 _ _ (by decide) rfl rfl
      have a8:=hag.at 8 KR
      have a36:=hag.at 36 KR
      simp only[S5,↓reduceIte,Nat.reduceEqDiff,initF, *] at a8 a36
      clear hag hR
      simp only[List.drop_succ_cons,List.drop_zero]
      (repeat' first|(with_reducible first|exact⟨⟩|(refine gB ?_;intros)|refine gT ?_ ?_)|refine gs ?_|refine sx ?_)
      exact⟨_,rfl,_,_,rfl,(H4.1 _ FR).more FR,(R4.1 _ FR).more FR⟩
    ·rename_i w3 n3 k3 s3 ha1 ha2 hk1
     obtain⟨e1,e2⟩:=hsp.out (by assumption)
     replace e1:Hid _:=e1
     replace e2:Hid _:=e2
     clear hst hsp hse hkd hv1 hv2 hv3 hk1
     have hrep:∀w',Ret Tryz.prog 80 #[stepV ⟨kd,k,sv,vr⟩] w' (replicaV ⟨sv,k⟩):=λ_=>stepReplica
     unfold wpdH
     refine wpd_rel 6 (λiI v w9=>match iI with
      |0=>v=.agg #[hv,rv]
      |1=>v=stepV ⟨kd,k,sv,vr⟩
      |2=>v=replicaV ⟨sv,k⟩
      |3=>∃u0,v=.tuple #[u0,intV 0]∧OwnW w3.heap.size u0 w9 W
      |4=>OwnW w3.heap.size v w9 W
      |5=>v=intV 0
      |_=>False) KR KR KR ?_ ?_ ?_
     ·intro iI v w1 w2 hR hx9
      match iI,hR with
      |0,h|1,h|2,h=>exact h
      |3,h=>exact(let ⟨u0,e,o⟩:=h;⟨u0,e,o.ext hx9⟩)
      |4,h=>exact OwnW.ext h hx9
      |5,h=>exact h
     ·intro iI oO hi ho gF w9 hx9 hdep hag
      have⟨s9,n9,r9,z9⟩:=bg9 hx9
      rcases iI with _|_|_|_|_|_|iI
      ·cases ho
       have a6:=hag.at 6 KR
       simp only[S5,↓reduceIte,Nat.reduceEqDiff,initF, *] at a6
       clear hag hdep
       refine relStep_off rfl ?_
       (repeat' first|(with_reducible first|exact⟨⟩|(refine gB ?_;intros)|refine gT ?_ ?_)|refine gs ?_|((with_reducible refine at_f 80 ?_);refine ret_k (hrep _) λ_ _ _=>?_)|refine sxStep22 ?_)
      ·cases ho
       have a7:=hag.at 7 KR
       simp only[S5,↓reduceIte,Nat.reduceEqDiff,initF, *] at a7
       clear hag hdep
       refine relStep_off rfl ?_
       (repeat' first|(with_reducible first|exact⟨⟩|(refine gB ?_;intros)|refine gT ?_ ?_)|refine gs ?_|((with_reducible refine at_f 80 ?_);refine ret_k (hrep _) λ_ _ _=>?_)|refine sxStep22 ?_)
      ·cases ho
       have d1:(gF 50)=stepV ⟨kd,k,sv,vr⟩:=hdep ⟨1,.data⟩ (by simp) rfl _ _ rfl rfl
       clear hag hdep
       refine relStep_off rfl ?_
       (repeat' first|(with_reducible first|exact⟨⟩|(refine gB ?_;intros)|refine gT ?_ ?_)|refine gs ?_|((with_reducible refine at_f 80 ?_);refine ret_k (hrep _) λ_ _ _=>?_)|refine sxStep22 ?_)
      ·cases ho
       have d0:(gF 49)=.agg #[hv,rv]:=hdep ⟨0,.data⟩ (by simp) rfl _ _ rfl rfl
       have d2:(gF 51)=replicaV ⟨sv,k⟩:=hdep ⟨2,.data⟩ (by simp) rfl _ _ rfl rfl
       clear hag hdep
       refine relStep_off rfl ?_
       (repeat' first|(with_reducible first|exact⟨⟩|(refine gB ?_;intros)|refine gT ?_ ?_)|refine gs ?_|((with_reducible refine at_f 80 ?_);refine ret_k (hrep _) λ_ _ _=>?_)|refine sxStep22 ?_)
       refine CallsV.mono (worldStop (r:=⟨sv,k⟩) (B:=B) FR (hX _ FR) hlen.out.1 hlen.out.2) λv w10 hh=>⟨hh.1,?_⟩
       obtain⟨_,u0,rfl,ho⟩:=hh
       exact⟨u0,by rw[e1.out];rfl,by rw[e2.out];exact ho.more z9⟩
      ·cases ho
       obtain⟨u3,e3,o3⟩:=hdep ⟨3,.data⟩ (by simp) rfl _ _ rfl rfl
       clear hag hdep
       refine relStep_off rfl ?_
       (repeat' first|(with_reducible first|exact⟨⟩|(refine gB ?_;intros)|refine gT ?_ ?_)|refine gs ?_|((with_reducible refine at_f 80 ?_);refine ret_k (hrep _) λ_ _ _=>?_)|refine sxStep22 ?_)
       all_goals exact o3
      ·cases ho
       obtain⟨u3,e3,o3⟩:=hdep ⟨3,.data⟩ (by simp) rfl _ _ rfl rfl
       clear hag hdep
       refine relStep_off rfl ?_
       (repeat' first|(with_reducible first|exact⟨⟩|(refine gB ?_;intros)|refine gT ?_ ?_)|refine gs ?_|((with_reducible refine at_f 80 ?_);refine ret_k (hrep _) λ_ _ _=>?_)|refine sxStep22 ?_)
      ·omega
     ·intro g9 w9 hx9 hR hag
      have⟨s9,n9,r9,z9⟩:=bg9 hx9
      have d4:OwnW w3.heap.size (g9 53) w9 W:=hR 4 _ _ (by decide) rfl rfl
      obtain⟨h4,r4,e4,oh4,or4⟩:=d4
      have H4:=oh4.o
      have R4:=or4.o
      clear oh4 or4
      have d5:(g9 54)=intV 0:=hR 5 _ _ (by decide) rfl rfl
      have a8:=hag.at 8 KR
      have a36:=hag.at 36 KR
      simp only[S5,↓reduceIte,Nat.reduceEqDiff,initF, *] at a8 a36
      clear hag hR
      simp only[List.drop_succ_cons,List.drop_zero]
      (repeat' first|(with_reducible first|exact⟨⟩|(refine gB ?_;intros)|refine gT ?_ ?_)|refine gs ?_|refine sx ?_)
      exact⟨_,rfl,_,_,rfl,(H4.1 _ FR).more FR,(R4.1 _ FR).more FR⟩
    ·obtain⟨e1,e2⟩:=hse.out (by omega) (by omega) ⟨1,x.hosts[k].firmware⟩ (by have e:kd=3:=(by assumption);subst e;rfl)
     replace e1:Hid _:=e1
     replace e2:Hid _:=e2
     clear hst hsp hse hkd hv1 hv2 hv3
     refine st_one KR (by simp) rfl λw5 n5 k5 s5=>?_
     simp only[List.set_cons_zero,List.set_cons_succ] at k5
     (repeat' first|(with_reducible first|exact⟨⟩|(refine gB ?_;intros)|refine gT ?_ ?_)|refine gs ?_|refine sxStep24 ?_)
     refine call_k (worldSet (host:=k) (h:=⟨1,x.hosts[k].firmware⟩) (B:=B) FR (hX _ FR) hlen.out.1 hlen.out.2) ?_
     rintro _ w6 n6 s6 ⟨u6,rfl,o6⟩
     rw[e1.out,←e2.out] at *
     obtain⟨h4,r4,rfl,oh4,or4⟩:=o6
     have H4:=oh4.o
     have R4:=or4.o
     clear oh4 or4
     (repeat' first|(with_reducible first|exact⟨⟩|(refine gB ?_;intros)|refine gT ?_ ?_)|refine gs ?_|refine sx ?_)
     exact⟨_,rfl,_,_,rfl,(H4.1 _ FR).more FR,(R4.1 _ FR).more FR⟩
    ·obtain⟨e1,e2⟩:=hse.out (by omega) (by omega) ⟨2,x.hosts[k].firmware⟩ (by have e:kd=4:=(by assumption);subst e;rfl)
     replace e1:Hid _:=e1
     replace e2:Hid _:=e2
     clear hst hsp hse hkd hv1 hv2 hv3
     refine st_one KR (by simp) rfl λw5 n5 k5 s5=>?_
     simp only[List.set_cons_zero,List.set_cons_succ] at k5
     (repeat' first|(with_reducible first|exact⟨⟩|(refine gB ?_;intros)|refine gT ?_ ?_)|refine gs ?_|refine sxStep24 ?_)
     refine call_k (worldSet (host:=k) (h:=⟨2,x.hosts[k].firmware⟩) (B:=B) FR (hX _ FR) hlen.out.1 hlen.out.2) ?_
     rintro _ w6 n6 s6 ⟨u6,rfl,o6⟩
     rw[e1.out,←e2.out] at *
     obtain⟨h4,r4,rfl,oh4,or4⟩:=o6
     have H4:=oh4.o
     have R4:=or4.o
     clear oh4 or4
     (repeat' first|(with_reducible first|exact⟨⟩|(refine gB ?_;intros)|refine gT ?_ ?_)|refine gs ?_|refine sx ?_)
     exact⟨_,rfl,_,_,rfl,(H4.1 _ FR).more FR,(R4.1 _ FR).more FR⟩
    ·obtain⟨e1,e2⟩:=hse.out (by omega) (by omega) ⟨3,x.hosts[k].firmware⟩ (by have e:kd=5:=(by assumption);subst e;rfl)
     replace e1:Hid _:=e1
     replace e2:Hid _:=e2
     clear hst hsp hse hkd hv1 hv2 hv3
     refine st_one KR (by simp) rfl λw5 n5 k5 s5=>?_
     simp only[List.set_cons_zero,List.set_cons_succ] at k5
     (repeat' first|(with_reducible first|exact⟨⟩|(refine gB ?_;intros)|refine gT ?_ ?_)|refine gs ?_|refine sxStep24 ?_)
     refine call_k (worldSet (host:=k) (h:=⟨3,x.hosts[k].firmware⟩) (B:=B) FR (hX _ FR) hlen.out.1 hlen.out.2) ?_
     rintro _ w6 n6 s6 ⟨u6,rfl,o6⟩
     rw[e1.out,←e2.out] at *
     obtain⟨h4,r4,rfl,oh4,or4⟩:=o6
     have H4:=oh4.o
     have R4:=or4.o
     clear oh4 or4
     (repeat' first|(with_reducible first|exact⟨⟩|(refine gB ?_;intros)|refine gT ?_ ?_)|refine gs ?_|refine sx ?_)
     exact⟨_,rfl,_,_,rfl,(H4.1 _ FR).more FR,(R4.1 _ FR).more FR⟩
    ·obtain⟨e1,e2⟩:=hse.out (by omega) (by omega) ⟨0,x.hosts[k].firmware⟩ (by have e:kd=6:=(by assumption);subst e;rfl)
     replace e1:Hid _:=e1
     replace e2:Hid _:=e2
     clear hst hsp hse hkd hv1 hv2 hv3
     refine st_one KR (by simp) rfl λw5 n5 k5 s5=>?_
     simp only[List.set_cons_zero,List.set_cons_succ] at k5
     (repeat' first|(with_reducible first|exact⟨⟩|(refine gB ?_;intros)|refine gT ?_ ?_)|refine gs ?_|refine sxStep24 ?_)
     refine call_k (worldSet (host:=k) (h:=⟨0,x.hosts[k].firmware⟩) (B:=B) FR (hX _ FR) hlen.out.1 hlen.out.2) ?_
     rintro _ w6 n6 s6 ⟨u6,rfl,o6⟩
     rw[e1.out,←e2.out] at *
     obtain⟨h4,r4,rfl,oh4,or4⟩:=o6
     have H4:=oh4.o
     have R4:=or4.o
     clear oh4 or4
     (repeat' first|(with_reducible first|exact⟨⟩|(refine gB ?_;intros)|refine gT ?_ ?_)|refine gs ?_|refine sx ?_)
     exact⟨_,rfl,_,_,rfl,(H4.1 _ FR).more FR,(R4.1 _ FR).more FR⟩
    ·obtain⟨e1,e2⟩:=hse.out (by omega) (by omega) ⟨x.hosts[k].phase,vr⟩ (by have e:kd=7:=(by assumption);subst e;rfl)
     replace e1:Hid _:=e1
     replace e2:Hid _:=e2
     clear hst hsp hse hkd hv1 hv2 hv3
     refine st_one KR (by simp) rfl λw5 n5 k5 s5=>?_
     simp only[List.set_cons_zero,List.set_cons_succ] at k5
     (repeat' first|(with_reducible first|exact⟨⟩|(refine gB ?_;intros)|refine gT ?_ ?_)|refine gs ?_|refine sxStep24 ?_)
     refine call_k (worldSet (host:=k) (h:=⟨x.hosts[k].phase,vr⟩) (B:=B) FR (hX _ FR) hlen.out.1 hlen.out.2) ?_
     rintro _ w6 n6 s6 ⟨u6,rfl,o6⟩
     rw[e1.out,←e2.out] at *
     obtain⟨h4,r4,rfl,oh4,or4⟩:=o6
     have H4:=oh4.o
     have R4:=or4.o
     clear oh4 or4
     (repeat' first|(with_reducible first|exact⟨⟩|(refine gB ?_;intros)|refine gT ?_ ?_)|refine gs ?_|refine sx ?_)
     exact⟨_,rfl,_,_,rfl,(H4.1 _ FR).more FR,(R4.1 _ FR).more FR⟩
    ·exfalso
     have:=hkd.out
     omega
end
section
variable{w:World}{B:Nat}{u:SiteVs}{s:SiteD}{wv hv rv:Value}{l:List SrvV}{x:WorldD}{st:StepD}{wl:List ServiceD}
theorem row_cut{w:World}{b t n m:Nat}{l:List Value}(hb:Blk w b t l)(hm:m=l.length)(hn:n≤m)(hmax:l.length≤9223372036854775807):Sl w w.heap.size none 1 (.slice (some ⟨b,0,none⟩) n m) (l.take n):=
 ⟨trivial,by simp only[lenN,List.length_take];omega,hn,by simp only[capN];omega,λb' h _=>by simp only[blockOf,Option.some.injEq] at h;subst h;exact hb.lt,λi hi=>by
  simp only[List.length_take] at hi
  simp only[elemAt,rdv,rd,Nat.mul_one,add_none,Nat.zero_add,hb.cell,List.getElem_take]
  exact List.getElem?_eq_getElem (by omega)⟩
theorem ready6(ho:RdyOk s wl x st)(h6:st.kind=6):(hostAt x st.host).phase=1∨(hostAt x st.host).phase=2∨(hostAt x st.host).phase=3:=by
 have:=ho.rdy
 simp only[readyK,h6] at this
 simp at this
 omega
theorem stepBack(hB:B≤w.heap.size)(hx0:WorldR w B hv rv x)(ho:RdyOk s wl x st):CallsV Tryz.prog 64 #[.agg #[hv,rv],stepV st] w λv w'=>Ext w w'∧Sl w' w'.heap.size none 1 v ((undoK x st).map phV):=by
 have⟨hn,hx⟩:=bg0 w
 have hx':=hx0.sk hB
 have hX:=hx'.2.2.2.2
 obtain⟨kd,hst,sv,vr⟩:=st
 obtain⟨k,rfl⟩:∃k:Nat,hst=k:=⟨hst.toNat,by have:=ho.host;simp only at this;omega⟩
 have hlt:k<x.hosts.length:=by have:=ho.host;simp only at this;omega
 have hat:hostAt x k=x.hosts[k]:=by simp[hostAt,hlt]
 have hfr:=λkd w' (h1:Bl B w w') (h3:B≤w'.heap.size)=>stepFree (st:=⟨kd,k,sv,vr⟩) h3 (hX w' h1)
 have hu:Hid (∀r,(if kd=1 then[2] else if kd=2 then(if x.hosts[k].phase=0 then[1] else if x.hosts[k].phase=1 then[6,1,3] else[]) else if kd=3 then[6] else if kd=4 then[6,3] else if kd=5 then[6,3,4]
  else if kd=6 then(if x.hosts[k].phase=1 then[3] else if runsB x k=true then[] else if x.hosts[k].phase=2 then[3,4] else if x.hosts[k].phase=3 then[3,4,5] else[]) else[])=r→undoK x ⟨kd,k,sv,vr⟩=r):=λr h=>by
  rw[←h];simp only[undoK,hat]
 have h6:Hid (kd=6→x.hosts[k].phase=1∨x.hosts[k].phase=2∨x.hosts[k].phase=3):=λh=>by
  have:=ready6 ho h
  simpa only[hat] using this
 clear hat ho
 simp only at hfr
 generalize runsB x k=rb at *
 generalize undoK x ⟨kd,k,sv,vr⟩=r at *
 (refine callsV_of Tryz.func64 rfl KR KR ?_;rw[Tryz.results64])
 (repeat' first|(with_reducible first|exact⟨⟩|(refine gB ?_;intros)|refine gT ?_ ?_)|refine gs ?_|refine sxStep21 ?_)
 ·rename_i lr
  have e:=hu.out [2] (by rw[if_pos (by assumption)])
  rw[e]
  exact lr _ FR
 ·rename_i lr
  have e:=hu.out [1] (by rw[if_neg (by omega),if_pos (by assumption),if_pos (by assumption)])
  rw[e]
  exact lr _ FR
 ·rename_i lr
  have e:=hu.out [6,1,3] (by rw[if_neg (by omega),if_pos (by assumption),if_neg (by assumption),if_pos (by assumption)])
  rw[e]
  exact lr _ FR
 ·have e:=hu.out [] (by rw[if_neg (by omega),if_pos (by assumption),if_neg (by assumption),if_neg (by assumption)])
  rw[e]
  exact Sl.nil _ _ _ _
 ·rename_i lr
  have e:=hu.out [6] (by rw[if_neg (by omega),if_neg (by omega),if_pos (by assumption)])
  rw[e]
  exact lr _ FR
 ·rename_i lr
  have e:=hu.out [6,3] (by rw[if_neg (by omega),if_neg (by omega),if_neg (by omega),if_pos (by assumption)])
  rw[e]
  exact lr _ FR
 ·rename_i lr
  have e:=hu.out [6,3,4] (by rw[if_neg (by omega),if_neg (by omega),if_neg (by omega),if_neg (by omega),if_pos (by assumption)])
  rw[e]
  exact lr _ FR
 ·rename_i b5 w5 n5 k5 s5 q5 l5 ha
  have e:=hu.out [3] (by rw[if_neg (by omega),if_neg (by omega),if_neg (by omega),if_neg (by omega),if_neg (by omega),if_pos (by assumption),if_pos (by assumption)])
  clear hu h6
  refine slice_hi (m:=1) (by decide) ?_
  (repeat' first|(with_reducible first|exact⟨⟩|(refine gB ?_;intros)|refine gT ?_ ?_)|refine gs ?_|refine sx ?_)
  exact row_cut (k5.2.1 _ FR) rfl (by decide) (by simp)
 ·rename_i b5 w5 n5 k5 s5 q5 l5 ha hb
  have h7:=h6.out (by assumption)
  refine ret_k (hfr _ _ FR FR) λw6 n6 s6=>?_
  cases rb
  ·have h8:x.hosts[k].phase=2∨x.hosts[k].phase=3:=by omega
   rcases h8 with h8|h8
   ·have e:=hu.out [3,4] (by rw[if_neg (by omega),if_neg (by omega),if_neg (by omega),if_neg (by omega),if_neg (by omega),if_pos (by assumption),if_neg (by assumption),if_neg (by decide),if_pos (by assumption)])
    clear hu h6 h7 ha
    (repeat' first|(with_reducible first|exact⟨⟩|(refine gB ?_;intros)|refine gT ?_ ?_)|refine gs ?_|refine sx ?_)
    rw[show IntKind.i64.wrap (IntKind.i64.wrap (IntKind.u8.wrap (2 - 1))+1)=((2:Nat):Int) from by decide]
    refine slice_hi (m:=2) (by decide) ?_
    (repeat' first|(with_reducible first|exact⟨⟩|(refine gB ?_;intros)|refine gT ?_ ?_)|refine gs ?_|refine sx ?_)
    exact row_cut (k5.2.1 _ FR) rfl (by decide) (by simp)
   ·have e:=hu.out [3,4,5] (by rw[if_neg (by omega),if_neg (by omega),if_neg (by omega),if_neg (by omega),if_neg (by omega),if_pos (by assumption),if_neg (by assumption),if_neg (by decide),if_neg (by omega),if_pos (by assumption)])
    clear hu h6 h7 ha
    (repeat' first|(with_reducible first|exact⟨⟩|(refine gB ?_;intros)|refine gT ?_ ?_)|refine gs ?_|refine sx ?_)
    rw[show IntKind.i64.wrap (IntKind.i64.wrap (IntKind.u8.wrap (3 - 1))+1)=((3:Nat):Int) from by decide]
    refine slice_hi (m:=3) (by decide) ?_
    (repeat' first|(with_reducible first|exact⟨⟩|(refine gB ?_;intros)|refine gT ?_ ?_)|refine gs ?_|refine sx ?_)
    exact row_cut (k5.2.1 _ FR) rfl (by decide) (by simp)
  ·have e:=hu.out [] (by rw[if_neg (by omega),if_neg (by omega),if_neg (by omega),if_neg (by omega),if_neg (by omega),if_pos (by assumption),if_neg (by assumption),if_pos rfl])
   clear hu h6
   (repeat' first|(with_reducible first|exact⟨⟩|(refine gB ?_;intros)|refine gT ?_ ?_)|refine gs ?_|refine sx ?_)
   exact Sl.nil _ _ _ _
 ·have e:=hu.out [] (by rw[if_neg (by omega),if_neg (by omega),if_neg (by omega),if_neg (by omega),if_neg (by omega),if_neg (by omega)])
  rw[e]
  exact Sl.nil _ _ _ _
def undoL(s:SiteD)(wl:List ServiceD)(x:WorldD)(st:StepD):List StepD:=if applyE s wl x st=0 then undoS x st else[]
def lastB(s:SiteD)(wl:List ServiceD)(x:WorldD)(st:StepD):Bool:=decide (applyE s wl x st=0)&&(undoS x st).isEmpty
def undoF(st:StepD)(k:Int):StepD:=⟨k,st.host,if k=1∨k=2 then st.service else 0,0⟩
theorem stepC_one(x:StepD):∀v∈stepC x,v.oneCell'=true:=by
 intro v hv
 simp only[stepC,List.mem_cons,List.not_mem_nil,or_false] at hv
 rcases hv with rfl|rfl|rfl|rfl<;>rfl
theorem appS{w:World}{B b cp:Nat}{sv:Value}{l:List StepD}(x:StepD){k:Value→World→Prop}(hown:Own w B 79 4 sv (l.map stepC))(hb:Blk w b 79 (stepC x))(hbound:l.length<1000000000000)(hB:B≤w.heap.size)
 (h:∀v' w',Now w'→Sa B w w'→Own w' B 79 4 v' ((l++[x]).map stepC)→k v' w'):appX Tryz.prog 37 37 37 sv (.slice (some ⟨b,0,none⟩) 1 cp) w k:=
 append_k (e:=79) (sz:=4) (by_:=32) (z:=.agg #[.int .u8 0,.int .i64 0,.int .i64 0,.int .i64 0]) (c:=stepC) x KR KR rfl (by decide) (by decide) hown hb rfl (stepC_one x) hbound hB h
theorem undoK_len(x:WorldD)(st:StepD):(undoK x st).length≤3:=by
 unfold undoK
 (repeat' split)<;>simp
theorem len_empty{α:Type}(l:List α):((l.length:Int) == 0)=l.isEmpty:=by cases l<;>simp<;>omega
theorem stepUndo(hB:B≤w.heap.size)(hs:SiteR w B u s)(hl:WishR w B wv l)(hx0:WorldR w B hv rv x):CallsV Tryz.prog 35 #[.agg (siteC u s).toArray,.agg #[wv],.agg #[hv,rv],stepV st] w λv w'=>Ext w w'∧∃v0,v=.tuple #[v0,.bool (lastB s (l.map (·.x)) x st),intV (applyE s (l.map (·.x)) x st)]∧Own w' w.heap.size 79 4 v0 ((undoL s (l.map (·.x)) x st).map stepC):=by
 have⟨hn,hx⟩:=bg0 w
 have hs':=hs.sk hB
 have hl':=hl.sk hB
 have hx':=hx0.sk hB
 have hS:=hs'.2.2.2.2.2.2
 have hW:=hl'.2.2
 have hX:=hx'.2.2.2.2
 have hap:=λw' (h1:Bl B w w') (h3:B≤w'.heap.size)=>stepApply (st:=st) h3 (hS w' h1) (hW w' h1) (hX w' h1)
 have hE:applyE s (l.map (·.x)) x st=0→RdyOk s (l.map (·.x)) x st:=λh=>rdy_ok (apply_iff.1 h)
 have hL:undoL s (l.map (·.x)) x st=if applyE s (l.map (·.x)) x st=0 then undoS x st else[]:=rfl
 have hT:lastB s (l.map (·.x)) x st=(decide (applyE s (l.map (·.x)) x st=0)&&(undoS x st).isEmpty):=rfl
 rw[hL,hT]
 clear hL hT
 generalize applyE s (l.map (·.x)) x st=E at *
 generalize applyW s (l.map (·.x)) x st=W at *
 have hE:Hid _:=hE
 (refine callsV_of Tryz.func35 rfl KR KR ?_;rw[Tryz.results35])
 by_cases hE0:E=0
 ·subst hE0
  have ho:=hE.out rfl
  rw[if_pos rfl,show(decide ((0:Int)=0)&&(undoS x st).isEmpty)=(undoS x st).isEmpty by simp]
  (repeat' first|(with_reducible first|exact⟨⟩|(refine gB ?_;intros)|refine gT ?_ ?_)|refine gs ?_|refine sxStep23 ?_)
  refine call_k (hap _ FR FR) ?_
  rintro _ w1 n1 s1 ⟨u1,rfl,o1⟩
  obtain⟨h1,r1,rfl,oh,or⟩:=o1
  have a1:=oh.one
  have a2:=or.one
  clear oh or hap
  (repeat' first|(with_reducible first|exact⟨⟩|(refine gB ?_;intros)|refine gT ?_ ?_)|refine gs ?_|refine sx ?_)
  refine call_k (stepBack (B:=B) FR (hX _ FR) ho) ?_
  rintro kv w2 n2 s2 hkv
  have kk:=hkv.k (Nat.le_refl _)
  have hus:Hid ((undoK x st).map (undoF st)=undoS x st):=rfl
  have hle:=undoK_len x st
  have hmax:=hkv.max_
  have hl0:Hid _:=len_empty (undoS x st)
  have hul:Hid ((undoS x st).length=(undoK x st).length):=by show _=_;simp[undoS]
  generalize undoK x st=ks at *
  generalize undoS x st=us at *
  clear hkv ho
  (repeat' first|(with_reducible first|exact⟨⟩|(refine gB ?_;intros)|refine gT ?_ ?_)|refine gs ?_|refine sx ?_)
  refine loop_o ks.length (λw0 g0 k g w'=>g 32=.int .i64 k∧(g 7=g0 7∧g 30=g0 30∧g 31=g0 31)∧∃v,g 13=v∧Own w' w0.heap.size 79 4 v (((ks.take k).map (undoF st)).map stepC)) KR hmax ?_ ?_ ?_
  ·(repeat' first|(with_reducible first|exact⟨⟩|(refine gB ?_;intros)|refine gT ?_ ?_)|refine gs ?_|refine sx ?_)
   exact⟨_,rfl,Own.nil _ _ _ _⟩
  ·rintro k m g wk hk hlt nk sk bk hw ⟨hi,hf,v,hv5,hown⟩
   simp(maxDischargeDepth:=3) only[U,↓reduceIte,Nat.reduceEqDiff, *] at hf
   have ht:(ks.take (k+1)).map (undoF st)=(ks.take k).map (undoF st)++[undoF st ks[k]]:=by rw[List.take_succ_eq_append_getElem hlt,List.map_append];rfl
   have hxk:=Ext.refl wk
   have ok:=hown.o
   clear hown
   (repeat' first|(with_reducible first|exact⟨⟩|(refine gB ?_;intros)|refine gT ?_ ?_)|refine gs ?_|simp(maxDischargeDepth:=3) only[↓X,↓Y,↓Q,S1,↓reduceIte,Nat.reduceEqDiff,Nat.reduceAdd,Int.reduceLT,Int.reduceLE,Int.reduceNeg,Int.reduceBEq,Int.reduceBNe,Int.reduceEq,Nat.reduceLeDiff,Nat.reduceMul,Nat.reduceLT, *,phV]|simp(singlePass:=true) (maxDischargeDepth:=99) only[*,S2,Nat.reduceLT,phV])
   ·have hk1:ks[k]=1:=by assumption
    have e:undoF st ks[k]=⟨1,st.host,st.service,0⟩:=by rw[undoF,hk1];rfl
    rw[e] at ht
    refine st_one KR (by simp) rfl λw5 n5 k5 s5=>?_
    simp only[List.set_cons_zero,List.set_cons_succ] at k5
    (repeat' first|(with_reducible first|exact⟨⟩|(refine gB ?_;intros)|refine gT ?_ ?_)|refine gs ?_|refine sx ?_)
    rename_i b6 w6 n6 k6 s6 q6
    refine appS ⟨1,st.host,st.service,0⟩ (ok.1 _ FR) (k6.2.1 _ FR) (by simp;omega) FR λv' w7 n7 s7 hown7=>?_
    (repeat' first|(with_reducible first|exact⟨⟩|(refine gB ?_;intros)|refine gT ?_ ?_)|refine gs ?_|refine sx ?_)
    refine next_k hk hlt ?_ FR
    (repeat' first|(with_reducible first|exact⟨⟩|(refine gB ?_;intros)|refine gT ?_ ?_)|refine gs ?_|refine sx ?_)
    refine⟨_,rfl,?_⟩
    exact hown7
   ·have hk1:ks[k]=2:=by assumption
    have e:undoF st ks[k]=⟨2,st.host,st.service,0⟩:=by rw[undoF,hk1];rfl
    rw[e] at ht
    refine st_one KR (by simp) rfl λw5 n5 k5 s5=>?_
    simp only[List.set_cons_zero,List.set_cons_succ] at k5
    (repeat' first|(with_reducible first|exact⟨⟩|(refine gB ?_;intros)|refine gT ?_ ?_)|refine gs ?_|refine sx ?_)
    rename_i b6 w6 n6 k6 s6 q6
    refine appS ⟨2,st.host,st.service,0⟩ (ok.1 _ FR) (k6.2.1 _ FR) (by simp;omega) FR λv' w7 n7 s7 hown7=>?_
    (repeat' first|(with_reducible first|exact⟨⟩|(refine gB ?_;intros)|refine gT ?_ ?_)|refine gs ?_|refine sx ?_)
    refine next_k hk hlt ?_ FR
    (repeat' first|(with_reducible first|exact⟨⟩|(refine gB ?_;intros)|refine gT ?_ ?_)|refine gs ?_|refine sx ?_)
    refine⟨_,rfl,?_⟩
    exact hown7
   ·have e:undoF st ks[k]=⟨ks[k],st.host,0,0⟩:=by rw[undoF,if_neg (by omega)]
    rw[e] at ht
    rename_i b6 w6 n6 k6 s6 q6
    refine appS ⟨ks[k],st.host,0,0⟩ (ok.1 _ FR) (k6.2.1 _ FR) (by simp;omega) FR λv' w7 n7 s7 hown7=>?_
    (repeat' first|(with_reducible first|exact⟨⟩|(refine gB ?_;intros)|refine gT ?_ ?_)|refine gs ?_|refine sx ?_)
    refine next_k hk hlt ?_ FR
    (repeat' first|(with_reducible first|exact⟨⟩|(refine gB ?_;intros)|refine gT ?_ ?_)|refine gs ?_|refine sx ?_)
    refine⟨_,rfl,?_⟩
    exact hown7
  ·rintro g wk nk sk bk ⟨hi,hf,v,hv5,hown⟩
   simp(maxDischargeDepth:=3) only[U,↓reduceIte,Nat.reduceEqDiff, *] at hf
   rw[take_all,hus.out] at hown
   have hll:=hown.l
   rw[List.length_map] at hll
   have ok:=hown.o
   clear hown
   (repeat' first|(with_reducible first|exact⟨⟩|(refine gB ?_;intros)|refine gT ?_ ?_)|refine gs ?_|simp(maxDischargeDepth:=3) only[↓X,↓Y,↓Q,S1,↓reduceIte,Nat.reduceEqDiff,Nat.reduceAdd,Int.reduceLT,Int.reduceLE,Int.reduceNeg,Int.reduceBEq,Int.reduceBNe,Int.reduceEq,Nat.reduceLeDiff,Nat.reduceMul,Nat.reduceLT, *,hll.1,hl0.out]|simp(singlePass:=true) (maxDischargeDepth:=99) only[*,S2,Nat.reduceLT,hll.1,hl0.out])
   exact⟨_,rfl,(ok.1 _ FR).more FR⟩
 ·rw[if_neg hE0,show(decide (E=0)&&(undoS x st).isEmpty)=false by simp[hE0]]
  (repeat' first|(with_reducible first|exact⟨⟩|(refine gB ?_;intros)|refine gT ?_ ?_)|refine gs ?_|refine sxStep23 ?_)
  refine call_k (hap _ FR FR) ?_
  rintro _ w1 n1 s1 ⟨u1,rfl,o1⟩
  obtain⟨h1,r1,rfl,oh,or⟩:=o1
  have a1:=oh.one
  have a2:=or.one
  clear oh or hap
  have hE1:(E == 0)=false:=by simpa using hE0
  (repeat' first|(with_reducible first|exact⟨⟩|(refine gB ?_;intros)|refine gT ?_ ?_)|refine gs ?_|refine sx ?_)
  exact⟨_,rfl,Own.nil _ _ _ _⟩
end
end Go.Proofs.YtphciegaokdolaaGreatDoor
