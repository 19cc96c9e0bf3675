/- The statement PlanSequences, walked. -/
import Derived.Test.YtgickfllblmhpaaDoorLive20b
import Derived.Test.YtgickfllblmhpaaDoorAuto
namespace Go.Proofs.YtgickfllblmhpaaDoor
set_option linter.unusedSimpArgs false
set_option linter.unusedVariables false
open Go Go.RowKit
set_option maxRecDepth 100000
set_option linter.unusedSectionVars false
set_option maxHeartbeats 2000000
section
variable {w : World} {B : Nat} {u : SiteVs} {s : SiteD} {wv sv av : Value} {vs : List Value} {l : List SrvV} {p : PlanD}
abbrev SiteK (w : World) (B : Nat) (u : SiteVs) (s : SiteD) : Prop := SlK w B 1 (some 1) u.f s.feeds feedV ∧ SlK w B 4 (some 4) u.b s.breakers breakerV ∧ SlK w B 2 (some 2) u.l s.loops loopV ∧ SlK w B 4 (some 4) u.r s.racks rackV ∧ SlK w B 3 (some 3) u.k s.links linkV ∧ SlK w B 4 (some 4) u.h s.hosts hostV ∧ (∀ w', Bl B w w' → SiteR w' B u s)
theorem SiteR.sk (h : SiteR w B u s) (hB : B ≤ w.heap.size) : SiteK w B u s := ⟨h.f.k hB, h.b.k hB, h.l.k hB, h.r.k hB, h.k.k hB, h.h.k hB, fun _ hb => ⟨h.f.bl hb, h.b.bl hb, h.l.bl hb, h.r.bl hb, h.k.bl hb, h.h.bl hb⟩⟩
abbrev WishK (w : World) (B : Nat) (v : Value) (l : List SrvV) : Prop := SlK w B 8 (some 8) v l srvV ∧ (∀ w', Bl B w w' → WishR w' B v l)
theorem WishR.sk (h : WishR w B wv l) (hB : B ≤ w.heap.size) : WishK w B wv l := ⟨h.v.k hB, fun _ hb => ⟨h.v.bl hb, fun u hu => (h.a u hu).bl hb, fun u hu => (h.n u hu).bl hb⟩⟩
abbrev PlanK (w : World) (B : Nat) (sv av : Value) (vs : List Value) (p : PlanD) : Prop := SlK w B 4 (some 4) sv p.steps stepV ∧ SlWf av ∧ isSl av ∧ lenN av = p.after.length ∧ av.oneCell' = true ∧ cellsL av = [av] ∧ (∀ w', Bl B w w' → PlanR w' B sv av vs p)
theorem PlanR.sk (h : PlanR w B sv av vs p) (hB : B ≤ w.heap.size) : PlanK w B sv av vs p := ⟨h.s.k hB, h.a.v.wf, h.a.v.sl, by rw [h.a.v.len, h.a.len], h.a.v.one, cellsL_one h.a.v.one, fun _ hb => ⟨h.s.bl hb, ⟨h.a.v.bl hb, h.a.len, fun i hi => let ⟨u, h1, h2⟩ := h.a.at_ i hi; ⟨u, h1, h2.bl hb⟩⟩⟩⟩
theorem LLR.bl {w' : World} {ll : List (List Int)} (h : LLR w B av vs ll) (hb : Bl B w w') : LLR w' B av vs ll := ⟨h.v.bl hb, h.len, fun i hi => let ⟨u, h1, h2⟩ := h.at_ i hi; ⟨u, h1, h2.bl hb⟩⟩
theorem law20few (hB : B ≤ w.heap.size) (hs : SiteR w B u s) (hl : WishR w B wv l) (hp : PlanR w B sv av vs p) : RetB Tryd.prog 5 #[.agg (siteC u s).toArray, .agg #[wv], .agg #[sv, av]] w := by
  have hs' := hs.sk hB
  have hl' := hl.sk hB
  have hp' := hp.sk hB
  have hmax := hp.a.max_
  have hg := fun w' (h : Bl B w w') (k : Nat) (hk : k < p.after.length) => (hp.a.bl h).get hk
  have hn : Now w := trivial
  have hx : Ext w w := Ext.refl w
  unfold RetB
  refine callsV_of Tryd.func5 rfl (by kernel_rfl) (by kernel_rfl) ?_
  rw [Tryd.results5]
  (repeat' first
    | with_reducible refine alloc_k fun _ _ _ _ _ _ => ?_
    | with_reducible refine row_k fun _ _ _ _ _ _ => ?_
    | with_reducible refine fork (fun _ => ?_) (fun _ => ?_)
    | with_reducible refine ext_k fun _ _ _ => ?_
    | with_reducible refine need (by first | kernel_rfl | omega | assumption) ?_
    | with_reducible refine st_agg (by kernel_rfl) rfl (by simp only [natV, intV, List.mem_cons, List.not_mem_nil, or_false, forall_eq_or_imp, forall_eq, one_int, one_bool, one_slice, one_ptr, and_self, *]) fun _ _ _ _ => ?_
    | with_reducible refine wpd_quiet_lit (by kernel_rfl) (by kernel_rfl) (by kernel_rfl) ?_
    | simp (maxDischargeDepth := 99) only [↓X, ↓Y, V, U, Z, ↓Q, Tsl, Tarr, Ttk, Tfl, Tint, Tbool, Tbld, Tze, Tzel, Tcall, ↓reduceIte, Nat.reduceEqDiff, Nat.reduceAdd, Nat.add_zero, Nat.zero_add, Int.toNat_natCast, Int.natCast_nonneg, true_and, and_true, and_self, List.nil_append, List.cons_append, U2, List.getElem?_cons_zero, List.getElem?_cons_succ, List.append_nil, List.length_map, Bool.not_true, Bool.not_false, decide_true, decide_false, eq_self, ne_eq, not_false_eq_true, Int.reduceLT, Int.reduceLE, Int.reduceNeg, nat_lt0, natV, intV, Int.ofNat_lt, Int.ofNat_le, Nat.le_refl, Nat.lt_irrefl, nat0, bne_self_eq_false, beq_self_eq_true, Int.reduceBEq, Int.reduceBNe, Int.reduceEq, Bool.false_eq_true, Bool.true_or, Bool.false_or, Bool.true_and, Bool.false_and, Bool.or_true, Bool.or_false, Bool.and_true, Bool.and_false, putAt, List.set_cons_zero, List.set_cons_succ, List.length_cons, List.length_nil, Nat.reduceLeDiff, idxOk, flatP, Nat.reduceMul, Nat.reduceLT, *, siteC])
  all_goals (try exact ⟨_, rfl⟩)
  refine loop_k p.after.length (fun g0 k g _ => g 7 = .int .i64 k ∧ (g 5 = g0 5)) (by kernel_rfl) (by omega) ?_ ?_ ?_
  · (repeat' first
    | with_reducible refine alloc_k fun _ _ _ _ _ _ => ?_
    | with_reducible refine row_k fun _ _ _ _ _ _ => ?_
    | with_reducible refine fork (fun _ => ?_) (fun _ => ?_)
    | with_reducible refine ext_k fun _ _ _ => ?_
    | with_reducible refine need (by first | kernel_rfl | omega | assumption) ?_
    | with_reducible refine st_agg (by kernel_rfl) rfl (by simp only [natV, intV, List.mem_cons, List.not_mem_nil, or_false, forall_eq_or_imp, forall_eq, one_int, one_bool, one_slice, one_ptr, and_self, *]) fun _ _ _ _ => ?_
    | with_reducible refine wpd_quiet_lit (by kernel_rfl) (by kernel_rfl) (by kernel_rfl) ?_
    | simp (maxDischargeDepth := 99) only [↓X, ↓Y, V, U, Z, ↓Q, Tsl, Tarr, Ttk, Tfl, Tint, Tbool, Tbld, Tze, Tzel, Tcall, ↓reduceIte, Nat.reduceEqDiff, Nat.reduceAdd, Nat.add_zero, Nat.zero_add, Int.toNat_natCast, Int.natCast_nonneg, true_and, and_true, and_self, List.nil_append, List.cons_append, U2, List.getElem?_cons_zero, List.getElem?_cons_succ, List.append_nil, List.length_map, Bool.not_true, Bool.not_false, decide_true, decide_false, eq_self, ne_eq, not_false_eq_true, Int.reduceLT, Int.reduceLE, Int.reduceNeg, nat_lt0, natV, intV, Int.ofNat_lt, Int.ofNat_le, Nat.le_refl, Nat.lt_irrefl, nat0, bne_self_eq_false, beq_self_eq_true, Int.reduceBEq, Int.reduceBNe, Int.reduceEq, Bool.false_eq_true, Bool.true_or, Bool.false_or, Bool.true_and, Bool.false_and, Bool.or_true, Bool.or_false, Bool.and_true, Bool.and_false, putAt, List.set_cons_zero, List.set_cons_succ, List.length_cons, List.length_nil, Nat.reduceLeDiff, idxOk, flatP, Nat.reduceMul, Nat.reduceLT, *])
  · rintro k m g w' hk hlt _ _ _ hw ⟨hi, hf⟩
    obtain ⟨z, hz, hsz⟩ := hg w' (by simp (maxDischargeDepth := 99) only [*]) k hlt
    have hz' := hsz.k (by simp (maxDischargeDepth := 99) only [*])
    (repeat' first
    | with_reducible refine alloc_k fun _ _ _ _ _ _ => ?_
    | with_reducible refine row_k fun _ _ _ _ _ _ => ?_
    | with_reducible refine fork (fun _ => ?_) (fun _ => ?_)
    | with_reducible refine ext_k fun _ _ _ => ?_
    | with_reducible refine need (by first | kernel_rfl | omega | assumption) ?_
    | with_reducible refine st_agg (by kernel_rfl) rfl (by simp only [natV, intV, List.mem_cons, List.not_mem_nil, or_false, forall_eq_or_imp, forall_eq, one_int, one_bool, one_slice, one_ptr, and_self, *]) fun _ _ _ _ => ?_
    | with_reducible refine wpd_quiet_lit (by kernel_rfl) (by kernel_rfl) (by kernel_rfl) ?_
    | simp (maxDischargeDepth := 99) only [↓X, ↓Y, V, U, Z, ↓Q, Tsl, Tarr, Ttk, Tfl, Tint, Tbool, Tbld, Tze, Tzel, Tcall, ↓reduceIte, Nat.reduceEqDiff, Nat.reduceAdd, Nat.add_zero, Nat.zero_add, Int.toNat_natCast, Int.natCast_nonneg, true_and, and_true, and_self, List.nil_append, List.cons_append, U2, List.getElem?_cons_zero, List.getElem?_cons_succ, List.append_nil, List.length_map, Bool.not_true, Bool.not_false, decide_true, decide_false, eq_self, ne_eq, not_false_eq_true, Int.reduceLT, Int.reduceLE, Int.reduceNeg, nat_lt0, natV, intV, Int.ofNat_lt, Int.ofNat_le, Nat.le_refl, Nat.lt_irrefl, nat0, bne_self_eq_false, beq_self_eq_true, Int.reduceBEq, Int.reduceBNe, Int.reduceEq, Bool.false_eq_true, Bool.true_or, Bool.false_or, Bool.true_and, Bool.false_and, Bool.or_true, Bool.or_false, Bool.and_true, Bool.and_false, putAt, List.set_cons_zero, List.set_cons_succ, List.length_cons, List.length_nil, Nat.reduceLeDiff, idxOk, flatP, Nat.reduceMul, Nat.reduceLT, *])
    · exact ⟨_, rfl⟩
    · refine next_k hk hlt ?_ (by simp (maxDischargeDepth := 99) only [*, Nat.le_refl])
      (repeat' first
    | with_reducible refine alloc_k fun _ _ _ _ _ _ => ?_
    | with_reducible refine row_k fun _ _ _ _ _ _ => ?_
    | with_reducible refine fork (fun _ => ?_) (fun _ => ?_)
    | with_reducible refine ext_k fun _ _ _ => ?_
    | with_reducible refine need (by first | kernel_rfl | omega | assumption) ?_
    | with_reducible refine st_agg (by kernel_rfl) rfl (by simp only [natV, intV, List.mem_cons, List.not_mem_nil, or_false, forall_eq_or_imp, forall_eq, one_int, one_bool, one_slice, one_ptr, and_self, *]) fun _ _ _ _ => ?_
    | with_reducible refine wpd_quiet_lit (by kernel_rfl) (by kernel_rfl) (by kernel_rfl) ?_
    | simp (maxDischargeDepth := 99) only [↓X, ↓Y, V, U, Z, ↓Q, Tsl, Tarr, Ttk, Tfl, Tint, Tbool, Tbld, Tze, Tzel, Tcall, ↓reduceIte, Nat.reduceEqDiff, Nat.reduceAdd, Nat.add_zero, Nat.zero_add, Int.toNat_natCast, Int.natCast_nonneg, true_and, and_true, and_self, List.nil_append, List.cons_append, U2, List.getElem?_cons_zero, List.getElem?_cons_succ, List.append_nil, List.length_map, Bool.not_true, Bool.not_false, decide_true, decide_false, eq_self, ne_eq, not_false_eq_true, Int.reduceLT, Int.reduceLE, Int.reduceNeg, nat_lt0, natV, intV, Int.ofNat_lt, Int.ofNat_le, Nat.le_refl, Nat.lt_irrefl, nat0, bne_self_eq_false, beq_self_eq_true, Int.reduceBEq, Int.reduceBNe, Int.reduceEq, Bool.false_eq_true, Bool.true_or, Bool.false_or, Bool.true_and, Bool.false_and, Bool.or_true, Bool.or_false, Bool.and_true, Bool.and_false, putAt, List.set_cons_zero, List.set_cons_succ, List.length_cons, List.length_nil, Nat.reduceLeDiff, idxOk, flatP, Nat.reduceMul, Nat.reduceLT, *])
  · rintro g w' _ _ _ ⟨hi, hf⟩
    (repeat' first
    | with_reducible refine alloc_k fun _ _ _ _ _ _ => ?_
    | with_reducible refine row_k fun _ _ _ _ _ _ => ?_
    | with_reducible refine fork (fun _ => ?_) (fun _ => ?_)
    | with_reducible refine ext_k fun _ _ _ => ?_
    | with_reducible refine need (by first | kernel_rfl | omega | assumption) ?_
    | with_reducible refine st_agg (by kernel_rfl) rfl (by simp only [natV, intV, List.mem_cons, List.not_mem_nil, or_false, forall_eq_or_imp, forall_eq, one_int, one_bool, one_slice, one_ptr, and_self, *]) fun _ _ _ _ => ?_
    | with_reducible refine wpd_quiet_lit (by kernel_rfl) (by kernel_rfl) (by kernel_rfl) ?_
    | simp (maxDischargeDepth := 99) only [↓X, ↓Y, V, U, Z, ↓Q, Tsl, Tarr, Ttk, Tfl, Tint, Tbool, Tbld, Tze, Tzel, Tcall, ↓reduceIte, Nat.reduceEqDiff, Nat.reduceAdd, Nat.add_zero, Nat.zero_add, Int.toNat_natCast, Int.natCast_nonneg, true_and, and_true, and_self, List.nil_append, List.cons_append, U2, List.getElem?_cons_zero, List.getElem?_cons_succ, List.append_nil, List.length_map, Bool.not_true, Bool.not_false, decide_true, decide_false, eq_self, ne_eq, not_false_eq_true, Int.reduceLT, Int.reduceLE, Int.reduceNeg, nat_lt0, natV, intV, Int.ofNat_lt, Int.ofNat_le, Nat.le_refl, Nat.lt_irrefl, nat0, bne_self_eq_false, beq_self_eq_true, Int.reduceBEq, Int.reduceBNe, Int.reduceEq, Bool.false_eq_true, Bool.true_or, Bool.false_or, Bool.true_and, Bool.false_and, Bool.or_true, Bool.or_false, Bool.and_true, Bool.and_false, putAt, List.set_cons_zero, List.set_cons_succ, List.length_cons, List.length_nil, Nat.reduceLeDiff, idxOk, flatP, Nat.reduceMul, Nat.reduceLT, *])
    exact ⟨_, rfl⟩
theorem idealB_zero (p : PlanD) : idealB p 0 = true := by
  simp only [idealB, Bool.and_eq_true, decide_eq_true_eq]
  exact ⟨Nat.pow_pos (by decide), fun i _ h => by rw [Nat.zero_testBit] at h; cases h⟩
theorem mem_ideals {p : PlanD} {x : Nat} : x ∈ idealsL p ↔ idealB p x = true := by
  simp only [idealsL, List.mem_filter, List.mem_range, idealB, Bool.and_eq_true, decide_eq_true_eq]
  exact ⟨fun h => h.2, fun h => ⟨h.1, h⟩⟩
theorem idealB_lt {p : PlanD} {x : Nat} (ho : Shape p) (h : idealB p x = true) : x < 4096 := by
  simp only [idealB, Bool.and_eq_true, decide_eq_true_eq] at h
  exact Nat.lt_of_lt_of_le h.1 (two_pow_le ho.small)
theorem seqF_len (p : PlanD) (set : Nat) : ∀ f done, (seqF p set f done).length ≤ f
  | 0, _ => by simp [seqF]
  | f + 1, done => by
    unfold seqF
    split
    · simp
    · split
      · simp
      · have := seqF_len p set f
        simp only [List.length_cons]
        exact Nat.succ_le_succ (this _)
theorem openB_mono {p : PlanD} {a b i : Nat} (h : ∀ j, a.testBit j = true → b.testBit j = true) (ho : openB p a i = true) : openB p b i = true := by
  simp only [openB, List.all_eq_true] at ho ⊢
  exact fun k hk => h _ (ho k hk)
theorem add_bit {a q : Nat} (ha : a < 4096) (hq : q < 13) (h : a.testBit q = false) : a + 2 ^ q = a ||| 2 ^ q := by
  have hp : 2 ^ q < 8192 := Nat.pow_lt_pow_right (m := q) (n := 13) (by decide) hq
  have hand : BitVec.ofNat 64 a &&& BitVec.ofNat 64 (2 ^ q) = 0#64 := by
    apply BitVec.eq_of_getLsbD_eq
    intro i hi
    simp only [BitVec.getLsbD_and, BitVec.getLsbD_ofNat, BitVec.getLsbD_zero, Nat.testBit_two_pow]
    by_cases e : q = i
    · subst e; simp [h]
    · simp [e]
  have := congrArg BitVec.toNat (BitVec.add_eq_or_of_and_eq_zero _ _ hand)
  have m1 : a % 2 ^ 64 = a := Nat.mod_eq_of_lt (by omega)
  have m2 : 2 ^ q % 2 ^ 64 = 2 ^ q := Nat.mod_eq_of_lt (by omega)
  have m3 : (a + 2 ^ q) % 2 ^ 64 = a + 2 ^ q := Nat.mod_eq_of_lt (by omega)
  rw [BitVec.toNat_add, BitVec.toNat_or, BitVec.toNat_ofNat, BitVec.toNat_ofNat, m1, m2, m3] at this
  exact this
theorem ideal_with {p : PlanD} {done q : Nat} (hd : idealB p done = true) (hq : q < p.steps.length) (ho : openB p done q = true) : idealB p (done ||| 2 ^ q) = true := by
  simp only [idealB, Bool.and_eq_true, decide_eq_true_eq] at hd ⊢
  refine ⟨Nat.or_lt_two_pow hd.1 (Nat.pow_lt_pow_right (by decide) hq), fun i hi hb => ?_⟩
  have hm : ∀ j, done.testBit j = true → (done ||| 2 ^ q).testBit j = true := fun j hj => by rw [Nat.testBit_or, hj]; rfl
  rw [Nat.testBit_or, Nat.testBit_two_pow, Bool.or_eq_true] at hb
  rcases hb with hb | hb
  · exact openB_mono hm (hd.2 i hi hb)
  · have : q = i := by simpa using hb
    subst this
    exact openB_mono hm ho
theorem seq_step {set f done : Nat} (ho : Shape p) (ha : Acyc p) (hi : idealB p set = true) (hd : idealB p done = true) (hsub : ∀ j, done.testBit j = true → set.testBit j = true) (hf : set ≤ f + done) :
    (done = set ∧ seqF p set f done = []) ∨ ∃ f' q, seqF p set f done = q :: seqF p set f' (done ||| 2 ^ q) ∧ q < p.steps.length ∧ done.testBit q = false ∧ openB p done q = true ∧ idealB p (done ||| 2 ^ q) = true ∧
      (∀ j, (done ||| 2 ^ q).testBit j = true → set.testBit j = true) ∧ set ≤ f' + (done ||| 2 ^ q) := by
  by_cases hne : done = set
  · left
    refine ⟨hne, ?_⟩
    cases f with
    | zero => rfl
    | succ f => rw [seqF, if_pos hne]
  · right
    have hle := le_of_bits hsub
    obtain ⟨f', rfl⟩ : ∃ f', f = f' + 1 := ⟨f - 1, by omega⟩
    obtain ⟨q, h1, h2, h3, h4, h5⟩ := next_some ho ha hi hsub hne
    have hgt : done < done ||| 2 ^ q := by
      refine Nat.lt_of_le_of_ne Nat.left_le_or fun he => ?_
      have := congrArg (fun x => x.testBit q) he
      simp only [Nat.testBit_or, h4, Nat.testBit_two_pow_self, Bool.or_true] at this
      cases this
    refine ⟨f', q, ?_, h2, h4, h5, ideal_with hd h2 h5, fun j hj => ?_, by omega⟩
    · rw [seqF, if_neg hne, h1]
    · rw [Nat.testBit_or, Nat.testBit_two_pow, Bool.or_eq_true] at hj
      rcases hj with hj | hj
      · exact hsub j hj
      · have : q = j := by simpa using hj
        rw [← this]; exact h3
theorem lawPlanSequences (hT : TabW w) (hB : B ≤ w.heap.size) (hs : SiteR w B u s) (hl : WishR w B wv l) (hp : PlanR w B sv av vs p) {a : Int} : Ret Tryd.prog 3 #[.agg (siteC u s).toArray, .agg #[wv], .agg #[sv, av], intV a] w (.bool true) := by
  have hs' := hs.sk hB
  have hl' := hl.sk hB
  have hp' := hp.sk hB
  have hT' := fun w' (h : Ext w w') => hT.ext h
  have hS := hs'.2.2.2.2.2.2
  have hW := hl'.2
  have hP := hp'.2.2.2.2.2.2
  have hn : Now w := trivial
  have hx : Ext w w := Ext.refl w
  obtain ⟨e, he⟩ : ∃ e, Hid (planErr s (l.map (·.x)) p = e) := ⟨_, rfl⟩
  have hok := fun h => (planErr_ok (s := s) (wl := l.map (·.x)) (p := p) h)
  rw [he.out] at hok
  refine callsV_of Tryd.func3 rfl (by kernel_rfl) (by kernel_rfl) ?_
  rw [Tryd.results3]
  (repeat' first
    | with_reducible refine alloc_k fun _ _ _ _ _ _ => ?_
    | with_reducible refine row_k fun _ _ _ _ _ _ => ?_
    | with_reducible refine fork (fun _ => ?_) (fun _ => ?_)
    | with_reducible refine ext_k fun _ _ _ => ?_
    | with_reducible refine need (by first | kernel_rfl | omega | assumption) ?_
    | with_reducible refine st_agg (by kernel_rfl) rfl (by simp only [natV, intV, List.mem_cons, List.not_mem_nil, or_false, forall_eq_or_imp, forall_eq, one_int, one_bool, one_slice, one_ptr, and_self, *]) fun _ _ _ _ => ?_
    | with_reducible refine wpd_quiet_lit (by kernel_rfl) (by kernel_rfl) (by kernel_rfl) ?_
    | ((with_reducible refine at_f 5 ?_); refine retb_k (law20few (B := B) (by simp (maxDischargeDepth := 99) only [*, Nat.le_refl]) (hS _ (by simp (maxDischargeDepth := 99) only [*, Nat.le_refl])) (hW _ (by simp (maxDischargeDepth := 99) only [*, Nat.le_refl])) (hP _ (by simp (maxDischargeDepth := 99) only [*, Nat.le_refl]))) fun _ _ _ _ => ?_)
    | ((with_reducible refine at_f 6 ?_); refine ret_k (law20live (by simp (maxDischargeDepth := 99) only [*, Nat.le_refl])) fun _ _ _ => ?_)
    | simp (maxDischargeDepth := 99) only [↓X, ↓Y, V, U, Z, ↓Q, Tsl, Tarr, Ttk, Tfl, Tint, Tbool, Tbld, Tze, Tzel, Tcall, ↓reduceIte, Nat.reduceEqDiff, Nat.reduceAdd, Nat.add_zero, Nat.zero_add, Int.toNat_natCast, Int.natCast_nonneg, true_and, and_true, and_self, List.nil_append, List.cons_append, U2, List.getElem?_cons_zero, List.getElem?_cons_succ, List.append_nil, List.length_map, Bool.not_true, Bool.not_false, decide_true, decide_false, eq_self, ne_eq, not_false_eq_true, Int.reduceLT, Int.reduceLE, Int.reduceNeg, nat_lt0, natV, intV, Int.ofNat_lt, Int.ofNat_le, Nat.le_refl, Nat.lt_irrefl, nat0, bne_self_eq_false, beq_self_eq_true, Int.reduceBEq, Int.reduceBNe, Int.reduceEq, Bool.false_eq_true, Bool.true_or, Bool.false_or, Bool.true_and, Bool.false_and, Bool.or_true, Bool.or_false, Bool.and_true, Bool.and_false, putAt, List.set_cons_zero, List.set_cons_succ, List.length_cons, List.length_nil, Nat.reduceLeDiff, idxOk, flatP, Nat.reduceMul, Nat.reduceLT, *, siteC])
  refine call_k (planIdeals (B := B) (by simp (maxDischargeDepth := 99) only [*, Nat.le_refl]) (by simp (maxDischargeDepth := 99) only [*, Nat.le_refl]) (hS _ (by simp (maxDischargeDepth := 99) only [*, Nat.le_refl])) (hW _ (by simp (maxDischargeDepth := 99) only [*, Nat.le_refl])) (hP _ (by simp (maxDischargeDepth := 99) only [*, Nat.le_refl])) he.out) ?_
  rintro _ w1 n1 s1 ⟨v1, rfl, hown⟩
  by_cases e0 : e = 0
  · subst e0
    obtain ⟨hsh, hac⟩ := hok rfl
    rw [if_pos rfl] at hown
    have h1 := (hown.sl1 (f := natV)).k (Nat.le_refl _)
    have hne : 0 < (idealsL p).length := List.length_pos_of_mem (mem_ideals.2 (idealB_zero p))
    have hle : (idealsL p).length ≤ 4096 := Nat.le_trans (List.length_filter_le _ _) (by simpa using two_pow_le hsh.small)
    have c0 := pos0 hne
    have cw : IntKind.u64.wrap ((idealsL p).length : Int) = ((idealsL p).length : Int) := by rw [IntKind.wrap_u64]; omega
    obtain ⟨A, hA⟩ : ∃ A : Nat, IntKind.u64.wrap a = (A : Int) := by
      rw [IntKind.wrap_u64]
      exact ⟨_, (Int.toNat_of_nonneg (Int.emod_nonneg _ (by decide))).symm⟩
    have ct : Int.tmod (A : Int) ((idealsL p).length : Int) = ((A % (idealsL p).length : Nat) : Int) := rfl
    have hj : A % (idealsL p).length < (idealsL p).length := Nat.mod_lt _ hne
    generalize hjj : A % (idealsL p).length = j at *
    have cj : IntKind.i64.wrap (j : Int) = (j : Int) := wrap_nat (by omega)
    have hid := mem_ideals.1 (List.getElem_mem hj)
    generalize hset : (idealsL p)[j] = set at *
    have hlt := idealB_lt hsh hid
    clear hjj
    (repeat' first
    | with_reducible refine alloc_k fun _ _ _ _ _ _ => ?_
    | with_reducible refine row_k fun _ _ _ _ _ _ => ?_
    | with_reducible refine fork (fun _ => ?_) (fun _ => ?_)
    | with_reducible refine ext_k fun _ _ _ => ?_
    | with_reducible refine need (by first | kernel_rfl | omega | assumption) ?_
    | with_reducible refine st_agg (by kernel_rfl) rfl (by simp only [natV, intV, List.mem_cons, List.not_mem_nil, or_false, forall_eq_or_imp, forall_eq, one_int, one_bool, one_slice, one_ptr, and_self, *]) fun _ _ _ _ => ?_
    | with_reducible refine wpd_quiet_lit (by kernel_rfl) (by kernel_rfl) (by kernel_rfl) ?_
    | simp (maxDischargeDepth := 99) only [↓X, ↓Y, V, U, Z, ↓Q, Tsl, Tarr, Ttk, Tfl, Tint, Tbool, Tbld, Tze, Tzel, Tcall, ↓reduceIte, Nat.reduceEqDiff, Nat.reduceAdd, Nat.add_zero, Nat.zero_add, Int.toNat_natCast, Int.natCast_nonneg, true_and, and_true, and_self, List.nil_append, List.cons_append, U2, List.getElem?_cons_zero, List.getElem?_cons_succ, List.append_nil, List.length_map, Bool.not_true, Bool.not_false, decide_true, decide_false, eq_self, ne_eq, not_false_eq_true, Int.reduceLT, Int.reduceLE, Int.reduceNeg, nat_lt0, natV, intV, Int.ofNat_lt, Int.ofNat_le, Nat.le_refl, Nat.lt_irrefl, nat0, bne_self_eq_false, beq_self_eq_true, Int.reduceBEq, Int.reduceBNe, Int.reduceEq, Bool.false_eq_true, Bool.true_or, Bool.false_or, Bool.true_and, Bool.false_and, Bool.or_true, Bool.or_false, Bool.and_true, Bool.and_false, putAt, List.set_cons_zero, List.set_cons_succ, List.length_cons, List.length_nil, Nat.reduceLeDiff, idxOk, flatP, Nat.reduceMul, Nat.reduceLT, *, hset])
    refine call_k (planSequence (B := B) (x := (set : Int)) (by simp (maxDischargeDepth := 99) only [*, Nat.le_refl]) (by simp (maxDischargeDepth := 99) only [*, Nat.le_refl]) (hS _ (by simp (maxDischargeDepth := 99) only [*, Nat.le_refl])) (hW _ (by simp (maxDischargeDepth := 99) only [*, Nat.le_refl])) (hP _ (by simp (maxDischargeDepth := 99) only [*, Nat.le_refl])) he.out) ?_
    rintro _ w2 n2 s2 ⟨v2, rfl, hown2⟩
    have ha0 : askedE 0 p (set : Int) = 0 := by simp [askedE, idealI, hid]
    rw [ha0, if_pos rfl] at hown2
    have h2 := (hown2.sl1 (f := natV)).k (Nat.le_refl _)
    simp only [Int.toNat_natCast] at h2
    (repeat' first
    | with_reducible refine alloc_k fun _ _ _ _ _ _ => ?_
    | with_reducible refine row_k fun _ _ _ _ _ _ => ?_
    | with_reducible refine fork (fun _ => ?_) (fun _ => ?_)
    | with_reducible refine ext_k fun _ _ _ => ?_
    | with_reducible refine need (by first | kernel_rfl | omega | assumption) ?_
    | with_reducible refine st_agg (by kernel_rfl) rfl (by simp only [natV, intV, List.mem_cons, List.not_mem_nil, or_false, forall_eq_or_imp, forall_eq, one_int, one_bool, one_slice, one_ptr, and_self, *]) fun _ _ _ _ => ?_
    | with_reducible refine wpd_quiet_lit (by kernel_rfl) (by kernel_rfl) (by kernel_rfl) ?_
    | simp (maxDischargeDepth := 99) only [↓X, ↓Y, V, U, Z, ↓Q, Tsl, Tarr, Ttk, Tfl, Tint, Tbool, Tbld, Tze, Tzel, Tcall, ↓reduceIte, Nat.reduceEqDiff, Nat.reduceAdd, Nat.add_zero, Nat.zero_add, Int.toNat_natCast, Int.natCast_nonneg, true_and, and_true, and_self, List.nil_append, List.cons_append, U2, List.getElem?_cons_zero, List.getElem?_cons_succ, List.append_nil, List.length_map, Bool.not_true, Bool.not_false, decide_true, decide_false, eq_self, ne_eq, not_false_eq_true, Int.reduceLT, Int.reduceLE, Int.reduceNeg, nat_lt0, natV, intV, Int.ofNat_lt, Int.ofNat_le, Nat.le_refl, Nat.lt_irrefl, nat0, bne_self_eq_false, beq_self_eq_true, Int.reduceBEq, Int.reduceBNe, Int.reduceEq, Bool.false_eq_true, Bool.true_or, Bool.false_or, Bool.true_and, Bool.false_and, Bool.or_true, Bool.or_false, Bool.and_true, Bool.and_false, putAt, List.set_cons_zero, List.set_cons_succ, List.length_cons, List.length_nil, Nat.reduceLeDiff, idxOk, flatP, Nat.reduceMul, Nat.reduceLT, *, ha0])
    have hml := seqF_len p set 4096 0
    generalize hms : seqF p set 4096 0 = ms at *
    refine loop_k ms.length (fun g0 k g _ => g 14 = .int .i64 k ∧ (g 6 = g0 6 ∧ g 9 = g0 9 ∧ g 11 = g0 11 ∧ g 12 = g0 12) ∧ ∃ f done, Hid (ms.drop k = seqF p set f done) ∧ Hid (idealB p done = true) ∧ Hid (∀ j, done.testBit j = true → set.testBit j = true) ∧ set ≤ f + done ∧ g 13 = .int .i64 done) (by kernel_rfl) (by omega) ?_ ?_ ?_
    · (repeat' first
    | with_reducible refine alloc_k fun _ _ _ _ _ _ => ?_
    | with_reducible refine row_k fun _ _ _ _ _ _ => ?_
    | with_reducible refine fork (fun _ => ?_) (fun _ => ?_)
    | with_reducible refine ext_k fun _ _ _ => ?_
    | with_reducible refine need (by first | kernel_rfl | omega | assumption) ?_
    | with_reducible refine st_agg (by kernel_rfl) rfl (by simp only [natV, intV, List.mem_cons, List.not_mem_nil, or_false, forall_eq_or_imp, forall_eq, one_int, one_bool, one_slice, one_ptr, and_self, *]) fun _ _ _ _ => ?_
    | with_reducible refine wpd_quiet_lit (by kernel_rfl) (by kernel_rfl) (by kernel_rfl) ?_
    | simp (maxDischargeDepth := 99) only [↓X, ↓Y, V, U, Z, ↓Q, Tsl, Tarr, Ttk, Tfl, Tint, Tbool, Tbld, Tze, Tzel, Tcall, ↓reduceIte, Nat.reduceEqDiff, Nat.reduceAdd, Nat.add_zero, Nat.zero_add, Int.toNat_natCast, Int.natCast_nonneg, true_and, and_true, and_self, List.nil_append, List.cons_append, U2, List.getElem?_cons_zero, List.getElem?_cons_succ, List.append_nil, List.length_map, Bool.not_true, Bool.not_false, decide_true, decide_false, eq_self, ne_eq, not_false_eq_true, Int.reduceLT, Int.reduceLE, Int.reduceNeg, nat_lt0, natV, intV, Int.ofNat_lt, Int.ofNat_le, Nat.le_refl, Nat.lt_irrefl, nat0, bne_self_eq_false, beq_self_eq_true, Int.reduceBEq, Int.reduceBNe, Int.reduceEq, Bool.false_eq_true, Bool.true_or, Bool.false_or, Bool.true_and, Bool.false_and, Bool.or_true, Bool.or_false, Bool.and_true, Bool.and_false, putAt, List.set_cons_zero, List.set_cons_succ, List.length_cons, List.length_nil, Nat.reduceLeDiff, idxOk, flatP, Nat.reduceMul, Nat.reduceLT, *])
      refine ⟨4096, 0, hms.symm, idealB_zero p, ?_, by omega, rfl⟩
      intro j hj; rw [Nat.zero_testBit] at hj; cases hj
    · rintro k m g w3 hk hlt _ _ _ hw ⟨hi, hf, f, done, hd1, hd2, hd3, hd4, h13⟩
      have hcons := List.drop_eq_getElem_cons hlt
      rcases seq_step hsh hac hid hd2.out hd3.out hd4 with ⟨_, h⟩ | ⟨f', q, h4, h5, h6, h7, h8, h9, h10⟩
      · rw [hd1.out, h] at hcons; cases hcons
      rw [hd1.out, h4] at hcons
      obtain ⟨hq, hrest⟩ := List.cons.inj hcons
      have hqs : ¬ p.steps.length ≤ q := by omega
      have hsm := hsh.small
      have hdl := idealB_lt hsh hd2.out
      have hnl := idealB_lt hsh h8
      have hq' := hq.symm
      have hrest : Hid (ms.drop (k + 1) = seqF p set f' (done ||| 2 ^ q)) := hrest.symm
      have hadd := add_bit hdl (by omega) h6
      have h9 : Hid (∀ j, (done ||| 2 ^ q).testBit j = true → set.testBit j = true) := h9
      have hany : ((idealsL p).any fun x => ((x : Int) == ((done ||| 2 ^ q : Nat) : Int))) = true := List.any_eq_true.2 ⟨_, mem_ideals.2 h8, by simp⟩
      generalize done ||| 2 ^ q = nx at *
      clear hcons hq hms h4
      (repeat' first
    | with_reducible refine alloc_k fun _ _ _ _ _ _ => ?_
    | with_reducible refine row_k fun _ _ _ _ _ _ => ?_
    | with_reducible refine fork (fun _ => ?_) (fun _ => ?_)
    | with_reducible refine ext_k fun _ _ _ => ?_
    | with_reducible refine need (by first | kernel_rfl | omega | assumption) ?_
    | with_reducible refine st_agg (by kernel_rfl) rfl (by simp only [natV, intV, List.mem_cons, List.not_mem_nil, or_false, forall_eq_or_imp, forall_eq, one_int, one_bool, one_slice, one_ptr, and_self, *]) fun _ _ _ _ => ?_
    | with_reducible refine wpd_quiet_lit (by kernel_rfl) (by kernel_rfl) (by kernel_rfl) ?_
    | ((with_reducible refine at_q 9 ?_); refine qret_k (fun _ _ _ => ref20In hdl (by omega)) ?_)
    | ((with_reducible refine at_q 10 ?_); refine qret_k (fun _ _ _ => ref20Open (B := B) (by simp (maxDischargeDepth := 99) only [*, Nat.le_refl]) (hP _ (by simp (maxDischargeDepth := 99) only [*, Nat.le_refl])) hsh hdl h5) ?_)
    | ((with_reducible refine at_f 11 ?_); refine ret_k (ref20With hdl (by omega)) fun _ _ _ => ?_)
    | simp (maxDischargeDepth := 99) only [↓X, ↓Y, V, U, Z, ↓Q, Tsl, Tarr, Ttk, Tfl, Tint, Tbool, Tbld, Tze, Tzel, Tcall, ↓reduceIte, Nat.reduceEqDiff, Nat.reduceAdd, Nat.add_zero, Nat.zero_add, Int.toNat_natCast, Int.natCast_nonneg, true_and, and_true, and_self, List.nil_append, List.cons_append, U2, List.getElem?_cons_zero, List.getElem?_cons_succ, List.append_nil, List.length_map, Bool.not_true, Bool.not_false, decide_true, decide_false, eq_self, ne_eq, not_false_eq_true, Int.reduceLT, Int.reduceLE, Int.reduceNeg, nat_lt0, natV, intV, Int.ofNat_lt, Int.ofNat_le, Nat.le_refl, Nat.lt_irrefl, nat0, bne_self_eq_false, beq_self_eq_true, Int.reduceBEq, Int.reduceBNe, Int.reduceEq, Bool.false_eq_true, Bool.true_or, Bool.false_or, Bool.true_and, Bool.false_and, Bool.or_true, Bool.or_false, Bool.and_true, Bool.and_false, putAt, List.set_cons_zero, List.set_cons_succ, List.length_cons, List.length_nil, Nat.reduceLeDiff, idxOk, flatP, Nat.reduceMul, Nat.reduceLT, *])
      refine loop_k (idealsL p).length (fun g0 k' g _ => g 16 = .int .i64 k' ∧ g 15 = .bool (((idealsL p).take k').any fun x => ((x : Int) == (nx : Int))) ∧ (g 6 = g0 6 ∧ g 9 = g0 9 ∧ g 11 = g0 11 ∧ g 12 = g0 12 ∧ g 13 = g0 13 ∧ g 14 = g0 14)) (by kernel_rfl) (by omega) ?_ ?_ ?_
      · (repeat' first
    | with_reducible refine alloc_k fun _ _ _ _ _ _ => ?_
    | with_reducible refine row_k fun _ _ _ _ _ _ => ?_
    | with_reducible refine fork (fun _ => ?_) (fun _ => ?_)
    | with_reducible refine ext_k fun _ _ _ => ?_
    | with_reducible refine need (by first | kernel_rfl | omega | assumption) ?_
    | with_reducible refine st_agg (by kernel_rfl) rfl (by simp only [natV, intV, List.mem_cons, List.not_mem_nil, or_false, forall_eq_or_imp, forall_eq, one_int, one_bool, one_slice, one_ptr, and_self, *]) fun _ _ _ _ => ?_
    | with_reducible refine wpd_quiet_lit (by kernel_rfl) (by kernel_rfl) (by kernel_rfl) ?_
    | simp (maxDischargeDepth := 99) only [↓X, ↓Y, V, U, Z, ↓Q, Tsl, Tarr, Ttk, Tfl, Tint, Tbool, Tbld, Tze, Tzel, Tcall, ↓reduceIte, Nat.reduceEqDiff, Nat.reduceAdd, Nat.add_zero, Nat.zero_add, Int.toNat_natCast, Int.natCast_nonneg, true_and, and_true, and_self, List.nil_append, List.cons_append, U2, List.getElem?_cons_zero, List.getElem?_cons_succ, List.append_nil, List.length_map, Bool.not_true, Bool.not_false, decide_true, decide_false, eq_self, ne_eq, not_false_eq_true, Int.reduceLT, Int.reduceLE, Int.reduceNeg, nat_lt0, natV, intV, Int.ofNat_lt, Int.ofNat_le, Nat.le_refl, Nat.lt_irrefl, nat0, bne_self_eq_false, beq_self_eq_true, Int.reduceBEq, Int.reduceBNe, Int.reduceEq, Bool.false_eq_true, Bool.true_or, Bool.false_or, Bool.true_and, Bool.false_and, Bool.or_true, Bool.or_false, Bool.and_true, Bool.and_false, putAt, List.set_cons_zero, List.set_cons_succ, List.length_cons, List.length_nil, Nat.reduceLeDiff, idxOk, flatP, Nat.reduceMul, Nat.reduceLT, *, List.take_zero, List.any_nil])
      · rintro k' m' g w4 hk' hlt' _ _ _ hw' ⟨hi', h15, hf'⟩
        have hat := any_take hlt' (fun x : Nat => ((x : Int) == (nx : Int)))
        (repeat' first
    | with_reducible refine alloc_k fun _ _ _ _ _ _ => ?_
    | with_reducible refine row_k fun _ _ _ _ _ _ => ?_
    | with_reducible refine fork (fun _ => ?_) (fun _ => ?_)
    | with_reducible refine ext_k fun _ _ _ => ?_
    | with_reducible refine need (by first | kernel_rfl | omega | assumption) ?_
    | with_reducible refine st_agg (by kernel_rfl) rfl (by simp only [natV, intV, List.mem_cons, List.not_mem_nil, or_false, forall_eq_or_imp, forall_eq, one_int, one_bool, one_slice, one_ptr, and_self, *]) fun _ _ _ _ => ?_
    | with_reducible refine wpd_quiet_lit (by kernel_rfl) (by kernel_rfl) (by kernel_rfl) ?_
    | simp (maxDischargeDepth := 99) only [↓X, ↓Y, V, U, Z, ↓Q, Tsl, Tarr, Ttk, Tfl, Tint, Tbool, Tbld, Tze, Tzel, Tcall, ↓reduceIte, Nat.reduceEqDiff, Nat.reduceAdd, Nat.add_zero, Nat.zero_add, Int.toNat_natCast, Int.natCast_nonneg, true_and, and_true, and_self, List.nil_append, List.cons_append, U2, List.getElem?_cons_zero, List.getElem?_cons_succ, List.append_nil, List.length_map, Bool.not_true, Bool.not_false, decide_true, decide_false, eq_self, ne_eq, not_false_eq_true, Int.reduceLT, Int.reduceLE, Int.reduceNeg, nat_lt0, natV, intV, Int.ofNat_lt, Int.ofNat_le, Nat.le_refl, Nat.lt_irrefl, nat0, bne_self_eq_false, beq_self_eq_true, Int.reduceBEq, Int.reduceBNe, Int.reduceEq, Bool.false_eq_true, Bool.true_or, Bool.false_or, Bool.true_and, Bool.false_and, Bool.or_true, Bool.or_false, Bool.and_true, Bool.and_false, putAt, List.set_cons_zero, List.set_cons_succ, List.length_cons, List.length_nil, Nat.reduceLeDiff, idxOk, flatP, Nat.reduceMul, Nat.reduceLT, *])
        all_goals (refine next_k hk' hlt' ?_ (by simp (maxDischargeDepth := 99) only [*, Nat.le_refl]); (repeat' first
    | with_reducible refine alloc_k fun _ _ _ _ _ _ => ?_
    | with_reducible refine row_k fun _ _ _ _ _ _ => ?_
    | with_reducible refine fork (fun _ => ?_) (fun _ => ?_)
    | with_reducible refine ext_k fun _ _ _ => ?_
    | with_reducible refine need (by first | kernel_rfl | omega | assumption) ?_
    | with_reducible refine st_agg (by kernel_rfl) rfl (by simp only [natV, intV, List.mem_cons, List.not_mem_nil, or_false, forall_eq_or_imp, forall_eq, one_int, one_bool, one_slice, one_ptr, and_self, *]) fun _ _ _ _ => ?_
    | with_reducible refine wpd_quiet_lit (by kernel_rfl) (by kernel_rfl) (by kernel_rfl) ?_
    | simp (maxDischargeDepth := 99) only [↓X, ↓Y, V, U, Z, ↓Q, Tsl, Tarr, Ttk, Tfl, Tint, Tbool, Tbld, Tze, Tzel, Tcall, ↓reduceIte, Nat.reduceEqDiff, Nat.reduceAdd, Nat.add_zero, Nat.zero_add, Int.toNat_natCast, Int.natCast_nonneg, true_and, and_true, and_self, List.nil_append, List.cons_append, U2, List.getElem?_cons_zero, List.getElem?_cons_succ, List.append_nil, List.length_map, Bool.not_true, Bool.not_false, decide_true, decide_false, eq_self, ne_eq, not_false_eq_true, Int.reduceLT, Int.reduceLE, Int.reduceNeg, nat_lt0, natV, intV, Int.ofNat_lt, Int.ofNat_le, Nat.le_refl, Nat.lt_irrefl, nat0, bne_self_eq_false, beq_self_eq_true, Int.reduceBEq, Int.reduceBNe, Int.reduceEq, Bool.false_eq_true, Bool.true_or, Bool.false_or, Bool.true_and, Bool.false_and, Bool.or_true, Bool.or_false, Bool.and_true, Bool.and_false, putAt, List.set_cons_zero, List.set_cons_succ, List.length_cons, List.length_nil, Nat.reduceLeDiff, idxOk, flatP, Nat.reduceMul, Nat.reduceLT, *, hat]))
      · rintro g w4 _ _ _ ⟨hi', h15, hf'⟩
        rw [take_all] at h15
        (repeat' first
    | with_reducible refine alloc_k fun _ _ _ _ _ _ => ?_
    | with_reducible refine row_k fun _ _ _ _ _ _ => ?_
    | with_reducible refine fork (fun _ => ?_) (fun _ => ?_)
    | with_reducible refine ext_k fun _ _ _ => ?_
    | with_reducible refine need (by first | kernel_rfl | omega | assumption) ?_
    | with_reducible refine st_agg (by kernel_rfl) rfl (by simp only [natV, intV, List.mem_cons, List.not_mem_nil, or_false, forall_eq_or_imp, forall_eq, one_int, one_bool, one_slice, one_ptr, and_self, *]) fun _ _ _ _ => ?_
    | with_reducible refine wpd_quiet_lit (by kernel_rfl) (by kernel_rfl) (by kernel_rfl) ?_
    | simp (maxDischargeDepth := 99) only [↓X, ↓Y, V, U, Z, ↓Q, Tsl, Tarr, Ttk, Tfl, Tint, Tbool, Tbld, Tze, Tzel, Tcall, ↓reduceIte, Nat.reduceEqDiff, Nat.reduceAdd, Nat.add_zero, Nat.zero_add, Int.toNat_natCast, Int.natCast_nonneg, true_and, and_true, and_self, List.nil_append, List.cons_append, U2, List.getElem?_cons_zero, List.getElem?_cons_succ, List.append_nil, List.length_map, Bool.not_true, Bool.not_false, decide_true, decide_false, eq_self, ne_eq, not_false_eq_true, Int.reduceLT, Int.reduceLE, Int.reduceNeg, nat_lt0, natV, intV, Int.ofNat_lt, Int.ofNat_le, Nat.le_refl, Nat.lt_irrefl, nat0, bne_self_eq_false, beq_self_eq_true, Int.reduceBEq, Int.reduceBNe, Int.reduceEq, Bool.false_eq_true, Bool.true_or, Bool.false_or, Bool.true_and, Bool.false_and, Bool.or_true, Bool.or_false, Bool.and_true, Bool.and_false, putAt, List.set_cons_zero, List.set_cons_succ, List.length_cons, List.length_nil, Nat.reduceLeDiff, idxOk, flatP, Nat.reduceMul, Nat.reduceLT, *])
        refine next_k hk hlt ?_ (by simp (maxDischargeDepth := 99) only [*, Nat.le_refl])
        (repeat' first
    | with_reducible refine alloc_k fun _ _ _ _ _ _ => ?_
    | with_reducible refine row_k fun _ _ _ _ _ _ => ?_
    | with_reducible refine fork (fun _ => ?_) (fun _ => ?_)
    | with_reducible refine ext_k fun _ _ _ => ?_
    | with_reducible refine need (by first | kernel_rfl | omega | assumption) ?_
    | with_reducible refine st_agg (by kernel_rfl) rfl (by simp only [natV, intV, List.mem_cons, List.not_mem_nil, or_false, forall_eq_or_imp, forall_eq, one_int, one_bool, one_slice, one_ptr, and_self, *]) fun _ _ _ _ => ?_
    | with_reducible refine wpd_quiet_lit (by kernel_rfl) (by kernel_rfl) (by kernel_rfl) ?_
    | simp (maxDischargeDepth := 99) only [↓X, ↓Y, V, U, Z, ↓Q, Tsl, Tarr, Ttk, Tfl, Tint, Tbool, Tbld, Tze, Tzel, Tcall, ↓reduceIte, Nat.reduceEqDiff, Nat.reduceAdd, Nat.add_zero, Nat.zero_add, Int.toNat_natCast, Int.natCast_nonneg, true_and, and_true, and_self, List.nil_append, List.cons_append, U2, List.getElem?_cons_zero, List.getElem?_cons_succ, List.append_nil, List.length_map, Bool.not_true, Bool.not_false, decide_true, decide_false, eq_self, ne_eq, not_false_eq_true, Int.reduceLT, Int.reduceLE, Int.reduceNeg, nat_lt0, natV, intV, Int.ofNat_lt, Int.ofNat_le, Nat.le_refl, Nat.lt_irrefl, nat0, bne_self_eq_false, beq_self_eq_true, Int.reduceBEq, Int.reduceBNe, Int.reduceEq, Bool.false_eq_true, Bool.true_or, Bool.false_or, Bool.true_and, Bool.false_and, Bool.or_true, Bool.or_false, Bool.and_true, Bool.and_false, putAt, List.set_cons_zero, List.set_cons_succ, List.length_cons, List.length_nil, Nat.reduceLeDiff, idxOk, flatP, Nat.reduceMul, Nat.reduceLT, *])
        exact ⟨f', nx, hrest, h8, h9, h10, rfl⟩
    · rintro g w3 _ _ _ ⟨hi, hf, f, done, hd1, hd2, hd3, hd4, h13⟩
      rcases seq_step hsh hac hid hd2.out hd3.out hd4 with ⟨h, _⟩ | ⟨f', q, h4, _⟩
      · subst h
        clear hd1 hd2 hd3
        (repeat' first
    | with_reducible refine alloc_k fun _ _ _ _ _ _ => ?_
    | with_reducible refine row_k fun _ _ _ _ _ _ => ?_
    | with_reducible refine fork (fun _ => ?_) (fun _ => ?_)
    | with_reducible refine ext_k fun _ _ _ => ?_
    | with_reducible refine need (by first | kernel_rfl | omega | assumption) ?_
    | with_reducible refine st_agg (by kernel_rfl) rfl (by simp only [natV, intV, List.mem_cons, List.not_mem_nil, or_false, forall_eq_or_imp, forall_eq, one_int, one_bool, one_slice, one_ptr, and_self, *]) fun _ _ _ _ => ?_
    | with_reducible refine wpd_quiet_lit (by kernel_rfl) (by kernel_rfl) (by kernel_rfl) ?_
    | ((with_reducible refine at_f 6 ?_); refine ret_k (law20live (hT' _ (by simp (maxDischargeDepth := 99) only [*, Nat.le_refl]))) fun _ _ _ => ?_)
    | simp (maxDischargeDepth := 99) only [↓X, ↓Y, V, U, Z, ↓Q, Tsl, Tarr, Ttk, Tfl, Tint, Tbool, Tbld, Tze, Tzel, Tcall, ↓reduceIte, Nat.reduceEqDiff, Nat.reduceAdd, Nat.add_zero, Nat.zero_add, Int.toNat_natCast, Int.natCast_nonneg, true_and, and_true, and_self, List.nil_append, List.cons_append, U2, List.getElem?_cons_zero, List.getElem?_cons_succ, List.append_nil, List.length_map, Bool.not_true, Bool.not_false, decide_true, decide_false, eq_self, ne_eq, not_false_eq_true, Int.reduceLT, Int.reduceLE, Int.reduceNeg, nat_lt0, natV, intV, Int.ofNat_lt, Int.ofNat_le, Nat.le_refl, Nat.lt_irrefl, nat0, bne_self_eq_false, beq_self_eq_true, Int.reduceBEq, Int.reduceBNe, Int.reduceEq, Bool.false_eq_true, Bool.true_or, Bool.false_or, Bool.true_and, Bool.false_and, Bool.or_true, Bool.or_false, Bool.and_true, Bool.and_false, putAt, List.set_cons_zero, List.set_cons_succ, List.length_cons, List.length_nil, Nat.reduceLeDiff, idxOk, flatP, Nat.reduceMul, Nat.reduceLT, *])
      · have := hd1.out
        rw [h4, List.drop_length] at this
        cases this
  · have c1 : (e != 0) = true := by simpa using e0
    clear he hok
    (repeat' first
    | with_reducible refine alloc_k fun _ _ _ _ _ _ => ?_
    | with_reducible refine row_k fun _ _ _ _ _ _ => ?_
    | with_reducible refine fork (fun _ => ?_) (fun _ => ?_)
    | with_reducible refine ext_k fun _ _ _ => ?_
    | with_reducible refine need (by first | kernel_rfl | omega | assumption) ?_
    | with_reducible refine st_agg (by kernel_rfl) rfl (by simp only [natV, intV, List.mem_cons, List.not_mem_nil, or_false, forall_eq_or_imp, forall_eq, one_int, one_bool, one_slice, one_ptr, and_self, *]) fun _ _ _ _ => ?_
    | with_reducible refine wpd_quiet_lit (by kernel_rfl) (by kernel_rfl) (by kernel_rfl) ?_
    | ((with_reducible refine at_f 6 ?_); refine ret_k (law20live (hT' _ (by simp (maxDischargeDepth := 99) only [*, Nat.le_refl]))) fun _ _ _ => ?_)
    | simp (maxDischargeDepth := 99) only [↓X, ↓Y, V, U, Z, ↓Q, Tsl, Tarr, Ttk, Tfl, Tint, Tbool, Tbld, Tze, Tzel, Tcall, ↓reduceIte, Nat.reduceEqDiff, Nat.reduceAdd, Nat.add_zero, Nat.zero_add, Int.toNat_natCast, Int.natCast_nonneg, true_and, and_true, and_self, List.nil_append, List.cons_append, U2, List.getElem?_cons_zero, List.getElem?_cons_succ, List.append_nil, List.length_map, Bool.not_true, Bool.not_false, decide_true, decide_false, eq_self, ne_eq, not_false_eq_true, Int.reduceLT, Int.reduceLE, Int.reduceNeg, nat_lt0, natV, intV, Int.ofNat_lt, Int.ofNat_le, Nat.le_refl, Nat.lt_irrefl, nat0, bne_self_eq_false, beq_self_eq_true, Int.reduceBEq, Int.reduceBNe, Int.reduceEq, Bool.false_eq_true, Bool.true_or, Bool.false_or, Bool.true_and, Bool.false_and, Bool.or_true, Bool.or_false, Bool.and_true, Bool.and_false, putAt, List.set_cons_zero, List.set_cons_succ, List.length_cons, List.length_nil, Nat.reduceLeDiff, idxOk, flatP, Nat.reduceMul, Nat.reduceLT, *, c1])
end
end Go.Proofs.YtgickfllblmhpaaDoor
