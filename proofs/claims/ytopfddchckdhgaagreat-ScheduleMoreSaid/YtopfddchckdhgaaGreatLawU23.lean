
/- The statements on layer 23 over what made makes: the calls of the program at it. -/
import Derived.Test.YtopfddchckdhgaaGreatMade23
import Derived.Test.YtopfddchckdhgaaGreatAwk23
namespace Go.Proofs.YtopfddchckdhgaaGreat
set_option linter.unusedSimpArgs false
set_option linter.unusedVariables false
open Go Go.RowKit
set_option maxRecDepth 100000
set_option linter.unusedSectionVars false
set_option maxHeartbeats 1000000
theorem RawR.ext {w w' : World} {B : Nat} {r : RawD} (h : RawR w B r) (hx : Ext w w') (hB : B ≤ w.heap.size) : RawR w' B r :=
  ⟨h.k.ext hx hB, h.kb, h.h.ext hx hB, h.hb, h.a.ext hx hB, h.ab, h.n.ext hx hB, h.wb, h.p.ext hx hB, h.pb, h.d.ext hx hB, h.db, h.t, h.e⟩
section
variable {w w' : World} {p : PlanD} {x : TermsD} {hv pv xv : Value}
theorem argM (h1 : HouV w hv 4) (h2 : PlnV w pv p) (h3 : TmsV w xv x) : ∃ f : FrV, hv = .agg (siteC f.u (houseD 4)).toArray ∧ pv = .agg #[f.sv, f.av] ∧ xv = .agg (termsC f.q x).toArray ∧ ArgT w w.heap.size f (houseD 4) p x := by
  obtain ⟨u, rfl, hu⟩ := h1.site
  obtain ⟨sv, av, vs, rfl, hp⟩ := h2.plan
  obtain ⟨q, rfl, hq⟩ := h3.terms
  exact ⟨⟨u, sv, av, vs, q⟩, rfl, rfl, rfl, hu, hp, hq⟩
theorem mk_of {T : TableD} {i e : Int} (h1 : HouV w hv 4) (h2 : PlnV w pv p) (h3 : TmsV w xv x) (hX : MadeX p x) (hm : makeS (houseD 4) p x = (T, i, e)) : CallsV Tryz.prog 11 #[hv, pv, xv] w fun r w' => Ext w w' ∧ ∃ tv, r = .tuple #[.agg #[tv, intV T.stop], intV i, intV e] ∧ Own w' w.heap.size 3 1 tv (T.begin_.map intC) := by
  obtain ⟨f, rfl, rfl, rfl, hA⟩ := argM h1 h2 h3
  refine CallsV.mono (schedMake (Nat.le_refl _) hA (made_kinds hX)) ?_
  rw [hm]
  exact fun _ _ hh => hh
theorem ck_of {b : List Int} {m e : Int} {br : BreachD} {bv : Value} {B : Nat} (h1 : HouV w hv 4) (h2 : PlnV w pv p) (h3 : TmsV w xv x) (hX : MadeX p x) (h4 : Own w B 3 1 bv (b.map intC)) (hm : checkS (houseD 4) p x ⟨b, m⟩ = (br, e)) : Ret Tryz.prog 15 #[hv, pv, xv, .agg #[bv, .int .i64 m]] w (.tuple #[.agg (breachC br).toArray, intV e]) := by
  obtain ⟨f, rfl, rfl, rfl, hA⟩ := argM h1 h2 h3
  have := schedCheck (stop := m) (Nat.le_refl _) hA (made_kinds hX) (h4.sl1 (f := intV))
  rw [hm] at this
  exact this
theorem atM_of {b : List Int} {m now : Int} {d g : Nat} {bv : Value} {B : Nat} (h1 : HouV w hv 4) (h2 : PlnV w pv p) (h3 : TmsV w xv x) (hX : MadeX p x) (h4 : Own w B 3 1 bv (b.map intC)) (hm : atS p x ⟨b, m⟩ now = (d, g)) : Ret Tryz.prog 16 #[pv, xv, .agg #[bv, .int .i64 m], .int .i64 now] w (.tuple #[natV d, natV g]) := by
  obtain ⟨f, rfl, rfl, rfl, hA⟩ := argM h1 h2 h3
  have := schedAt (s := houseD 4) (stop := m) (now := now) (Nat.le_refl _) hA (made_kinds hX) (h4.sl1 (f := intV))
  rw [hm] at this
  exact this
/-- What made returned, in its cells. -/
theorem HouV.cells {n : Nat} (h : HouV w hv n) : ∃ c0 c1 c2 c5 u, hv = .agg #[.slice (some ⟨c0, 0, none⟩) 1 1, .slice (some ⟨c1, 0, none⟩) 1 1, .slice (some ⟨c2, 0, none⟩) 1 1, .slice (some ⟨c5, 0, none⟩) 2 2, .int .i64 1, .slice none 0 0, u] ∧ u.oneCell' = true := by
  obtain ⟨c0, c1, c2, c5, u, B, rfl, _, _, _, _, o⟩ := h
  exact ⟨c0, c1, c2, c5, u, rfl, o.one⟩
theorem PlnV.cells (h : PlnV w pv p) : ∃ (sv av : Value) (vs : List Value) (B : Nat), pv = .agg #[sv, av] ∧ sv.oneCell' = true ∧ av.oneCell' = true ∧ Own w B 71 4 sv (p.steps.map stepC) ∧ Own w B 39 1 av (vs.map fun v => [v]) ∧ vs.length = p.after.length ∧ ∀ i (h : i < p.after.length), ∃ u, vs[i]? = some u ∧ Own w B 3 1 u (p.after[i].map intC) := by
  obtain ⟨sv, av, vs, B, e, h1, h2, h3⟩ := h
  exact ⟨sv, av, vs, B, e, h1.one, h2.one, h1, h2, h3⟩
theorem TmsV.cells (h : TmsV w xv x) : ∃ wv rv apv c7 B, xv = .agg #[wv, rv, .int .i64 x.blast, .slice none 0 0, .slice (some ⟨c7, 0, none⟩) 8 8, apv, .int .i64 x.first, .int .i64 x.last] ∧ wv.oneCell' = true ∧ rv.oneCell' = true ∧ apv.oneCell' = true ∧ Own w B 79 4 wv (x.windows.map windowC) ∧ Own w B 81 2 rv (x.areas.map areaC) ∧ Blk w c7 3 (x.takes.map intV) ∧ Own w B 3 1 apv (x.approved.map intC) ∧ x.takes.length = 8 := by
  obtain ⟨wv, rv, apv, c7, B, e, h1, h2, h3, h4, h5⟩ := h
  exact ⟨wv, rv, apv, c7, B, e, h1.one, h2.one, h4.one, h1, h2, h3, h4, h5⟩
/-- The plan's rows, read. -/
theorem PlnV.get {sv av : Value} (h : PlnV w (.agg #[sv, av]) p) : ∃ vs, PlanT w w.heap.size sv av vs p := by
  obtain ⟨sv', av', vs, e, hp⟩ := h.plan
  simp only [Value.agg.injEq, Array.mk.injEq, List.cons.injEq, and_true] at e
  obtain ⟨rfl, rfl⟩ := e
  exact ⟨vs, hp⟩
theorem PlnV.row {sv av : Value} (h : PlnV w (.agg #[sv, av]) p) {i : Nat} (hi : i < p.after.length) : ∃ u, (∀ w', Bl w.heap.size w w' → rdv none w' (elemAt av 1 i) = some u) ∧ SlK w w.heap.size 1 none u (afterS p i) intV ∧ SlWf av ∧ isSl av ∧ lenN av = p.after.length ∧ (afterS p i).length ≤ 9223372036854775807 ∧ Bl w.heap.size w w := by
  obtain ⟨vs, hp⟩ := h.get
  obtain ⟨u, h1, h2⟩ := hp.a.at_ i hi
  have hlt : i < vs.length := by rw [hp.a.len]; exact hi
  rw [← afterS_at hi] at h2
  refine ⟨u, fun w' hb => ?_, h2.k (Nat.le_refl _), hp.a.v.wf, hp.a.v.sl, by rw [hp.a.v.len, hp.a.len], by have := h2.max_; simpa using this, Bl.refl (Nat.le_refl _)⟩
  rw [(hp.a.v.bl hb).rd i hlt]
  rw [List.getElem?_eq_getElem hlt] at h1
  exact h1
theorem at_lt {b : List Int} {m now : Int} (hn : p.steps.length ≤ 8) : (atS p x ⟨b, m⟩ now).1 < 2 ^ p.steps.length ∧ (atS p x ⟨b, m⟩ now).2 < 2 ^ p.steps.length := by
  have := Nat.pow_pos (n := p.steps.length) (show 0 < 2 by decide)
  unfold atS
  split
  · exact ⟨bits_lt _, bits_lt _⟩
  · exact ⟨this, this⟩
theorem shr_zero {d n : Nat} (hn : n ≤ 8) (hd : d < 2 ^ n) : shrI .i64 (d : Int) (n : Int) = 0 := by
  rw [shrI_nat (by omega), Nat.div_eq_of_lt hd]; rfl
/-- Make, in its two cases. -/
theorem make_cases (hX : MadeX p x) : (∃ b, makeS (houseD 4) p x = (⟨b, Sch.stop (scS (houseD 4) p x) b⟩, -1, 0) ∧ MadeT (houseD 4) p x b ∧ Sch.make (scS (houseD 4) p x) p.steps.length (List.replicate p.steps.length (-1)) = (b, true)) ∨ ∃ i : Nat, makeS (houseD 4) p x = (noT, (i : Int), 7) ∧ i < p.steps.length ∧ ∃ b, Sch.make (scS (houseD 4) p x) p.steps.length (List.replicate p.steps.length (-1)) = (b, false) := by
  have hv := made_valid hX
  rcases h : Sch.make (scS (houseD 4) p x) p.steps.length (List.replicate p.steps.length (-1)) with ⟨b, _ | _⟩
  · right
    obtain ⟨h1, h2⟩ := make_stuck hv h
    refine ⟨(Sch.stuck (scS (houseD 4) p x) b).toNat, ?_, by omega, b, rfl⟩
    unfold makeS
    rw [if_pos hv, h, Int.toNat_of_nonneg h1]
  · left
    refine ⟨b, ?_, made_of (fit_of hv) h, rfl⟩
    unfold makeS
    rw [if_pos hv, h]
theorem MadeX.noBlast (h : MadeX p x) : MadeX p { x with blast := 0 } := ⟨h.n, h.steps, h.la, h.aft, h.first, h.last, h.takes, h.lp, h.app, h.lw, h.win, h.lr, h.area, by show (0 : Int) ≤ 0 ∧ (0 : Int) ≤ 4; omega⟩
theorem TmsV.noBlast {wv rv apv : Value} {c7 : Nat} {bl fi la : Int} (h : TmsV w (.agg #[wv, rv, .int .i64 bl, .slice none 0 0, .slice (some ⟨c7, 0, none⟩) 8 8, apv, .int .i64 fi, .int .i64 la]) x) : TmsV w (.agg #[wv, rv, .int .i64 0, .slice none 0 0, .slice (some ⟨c7, 0, none⟩) 8 8, apv, .int .i64 fi, .int .i64 la]) { x with blast := 0 } := by
  obtain ⟨wv', rv', apv', c7', B, e, h1, h2, h3, h4, h5⟩ := h
  simp only [Value.agg.injEq, Array.mk.injEq, List.cons.injEq, and_true, Value.slice.injEq, Option.some.injEq, Addr.mk.injEq, intV, Value.int.injEq, true_and] at e
  obtain ⟨rfl, rfl, _, rfl, rfl, rfl, rfl⟩ := e
  exact ⟨_, _, _, _, B, rfl, h1, h2, h3, h4, h5⟩
end
end Go.Proofs.YtopfddchckdhgaaGreat
