
/- Terms that are eased, in a box whose row of approvals grows. No program is walked here. -/
import Derived.Test.YtopfddchckdhgaaGreatLawU23
namespace Go.Proofs.YtopfddchckdhgaaGreat
set_option linter.unusedSimpArgs false
set_option linter.unusedVariables false
open Go Go.RowKit
set_option maxRecDepth 100000
set_option linter.unusedSectionVars false
set_option maxHeartbeats 1000000
def moreF (x : TermsD) (ea i : Nat) : Int := if 0 < appS x i then appS x i - ((ea % ((appS x i).toNat + 1) : Nat) : Int) else appS x i
def moreD (x : TermsD) (ea fu n : Nat) : TermsD := { x with blast := 0, first := ((20 - ea % 21 : Nat) : Int), last := x.last + fu, approved := (List.range n).map (moreF x ea) }
def trmZ (wv rv ov : Value) (c7 : Nat) (fi la : Int) : List Value := [wv, rv, .int .i64 0, .slice none 0 0, .slice (some ⟨c7, 0, none⟩) 8 8, ov, .int .i64 fi, .int .i64 la]
structure MoI (w3 : World) (b3 b4 b5 b6 b9 : Nat) (cS cP cT cM : List Value) (wv rv : Value) (c7 : Nat) (fi la : Int) (tv : Value) (bl : List Int) (F : Nat → Int) (Bm Bq k : Nat) (w' : World) : Prop where
  ext : Ext w3 w'
  k3 : Blk w' b3 29 cS
  k4 : Blk w' b4 33 cP
  k5 : Blk w' b5 41 cT
  k6 : Blk w' b6 45 cM
  size : Bq ≤ w'.heap.size
  tv : Own w' Bm 3 1 tv (bl.map intC)
  row : ∃ ov : Value, Blk w' b9 41 (trmZ wv rv ov c7 fi la) ∧ Own w' Bq 3 1 ov (((List.range k).map F).map intC)
structure MoS (w3 : World) (b5 b9 : Nat) (tv : Value) (Bq : Nat) : Prop where
  h9 : w3.heap.size ≤ b9 ∧ b9 < Bq
  hq : w3.heap.size ≤ Bq
  ne : ¬ b5 = b9
  tv : ∀ b, tv.ownBlock = some b → b < Bq
section
variable {w3 wa wb wc wd : World} {b3 b4 b5 b6 b9 c7 Bm Bq k : Nat} {cS cP cT cM : List Value} {wv rv tv ov v' : Value} {bl : List Int} {F : Nat → Int} {fi la : Int}
theorem MoI.ext_ (h : MoI w3 b3 b4 b5 b6 b9 cS cP cT cM wv rv c7 fi la tv bl F Bm Bq k wa) (hx : Ext wa wb) : MoI w3 b3 b4 b5 b6 b9 cS cP cT cM wv rv c7 fi la tv bl F Bm Bq k wb := by
  obtain ⟨ov, h1, h2⟩ := h.row
  exact ⟨h.ext.trans hx, h.k3.ext hx, h.k4.ext hx, h.k5.ext hx, h.k6.ext hx, Nat.le_trans h.size hx.size, h.tv.ext hx, ov, h1.ext hx, h2.ext hx⟩
theorem MoI.grow (hS : MoS w3 b5 b9 tv Bq) (h : MoI w3 b3 b4 b5 b6 b9 cS cP cT cM wv rv c7 fi la tv bl F Bm Bq k wa) (h1 : Blk wa b9 41 (trmZ wv rv ov c7 fi la)) (h2 : Own wa Bq 3 1 ov (((List.range k).map F).map intC)) (hx : Ext wa wb) (hT : TBn (fun c => ov.ownBlock = some c) wb wc) (ho : Own wc Bq 3 1 v' (((List.range k).map F ++ [F k]).map intC)) (hc : Chg wc wd b9) (hb : Blk wd b9 41 (trmZ wv rv v' c7 fi la)) : MoI w3 b3 b4 b5 b6 b9 cS cP cT cM wv rv c7 fi la tv bl F Bm Bq (k + 1) wd := by
  have hB := h.ext_ hx
  have key : ∀ {c T cs}, Blk wb c T cs → ¬ T = 3 → Blk wc c T cs := fun {c T cs} hk hn => hk.tb hT fun e9 => by obtain ⟨cur, h9⟩ := (h2.ext hx).obj23 e9; exact hn (hk.type h9)
  have hxc : Ext w3 wc := hB.ext.trans' ⟨hT.os, hT.tape, hT.output, hT.size, fun c hc => hT.block c (Nat.lt_of_lt_of_le hc hB.ext.size) fun e9 => by have := (h2.lt _ e9).1; have := hS.hq; omega⟩
  have htv : Own wc Bm 3 1 tv (bl.map intC) := hB.tv.keep fun c h9 => hT.block c (hB.tv.lt c h9).2 fun e9 => by have := (h2.lt _ e9).1; have := hS.tv c h9; omega
  have k9 : Blk wc b9 41 (trmZ wv rv ov c7 fi la) := key (h1.ext hx) (by decide)
  have key2 : ∀ {c T cs}, Blk wc c T cs → ¬ T = 41 → Blk wd c T cs := fun {c T cs} hk hn => hc.blk hk fun e9 => by subst e9; exact hn (hk.type k9)
  exact ⟨hxc.trans' (hc.below hS.h9.1 hxc.size), key2 (key hB.k3 (by decide)) (by decide), key2 (key hB.k4 (by decide)) (by decide), hc.blk (key hB.k5 (by decide)) hS.ne, key2 (key hB.k6 (by decide)) (by decide), Nat.le_trans hB.size (Nat.le_trans hT.size hc.size), htv.kept fun c cur _ hk => key2 hk (by decide), v', hb, by
    rw [List.range_succ, List.map_append]
    exact ho.kept fun c cur _ hk => key2 hk (by decide)⟩
end
section
variable {w : World} {p : PlanD} {x : TermsD} {ea fu : Nat}
theorem TmsV.eased {wv rv apv ov : Value} {c7 B' : Nat} {bl fi la bl' fi' la' : Int} {l : List Int} (h : TmsV w (.agg #[wv, rv, .int .i64 bl, .slice none 0 0, .slice (some ⟨c7, 0, none⟩) 8 8, apv, .int .i64 fi, .int .i64 la]) x) (ho : Own w B' 3 1 ov (l.map intC)) : TmsV w (.agg #[wv, rv, .int .i64 bl', .slice none 0 0, .slice (some ⟨c7, 0, none⟩) 8 8, ov, .int .i64 fi', .int .i64 la']) { x with blast := bl', first := fi', last := la', approved := l } := by
  obtain ⟨wv', rv', apv', c7', B, e, h1, h2, h3, h4, h5⟩ := h
  simp only [Value.agg.injEq, Array.mk.injEq, List.cons.injEq, and_true, Value.slice.injEq, Option.some.injEq, Addr.mk.injEq, intV, Value.int.injEq, true_and] at e
  obtain ⟨rfl, rfl, _, rfl, rfl, _, _⟩ := e
  exact ⟨_, _, _, _, min B B', rfl, h1.more (Nat.min_le_left _ _), h2.more (Nat.min_le_left _ _), h3, ho.more (Nat.min_le_right _ _), h5⟩
theorem moreF_rng {i : Nat} (ha : -1 ≤ appS x i ∧ appS x i ≤ 254) : -1 ≤ moreF x ea i ∧ moreF x ea i ≤ 254 ∧ moreF x ea i ≤ appS x i ∧ (moreF x ea i = -1 → appS x i = -1) := by
  unfold moreF
  split
  · have := Nat.mod_lt ea (show 0 < (appS x i).toNat + 1 by omega)
    omega
  · omega
theorem moreX (h : MadeX p x) (hx1 : x.first = 20) (hxl : x.last ≤ 275) (hf : fu ≤ 255) : MadeX p (moreD x ea fu p.steps.length) := by
  have happ : ∀ i, i < p.steps.length → -1 ≤ appS x i ∧ appS x i ≤ 254 := fun i hi => by
    have hi' : i < x.approved.length := by rw [h.lp]; exact hi
    have := h.app _ (List.getElem_mem hi')
    simp only [appS, hi', List.getElem?_eq_getElem, Option.getD_some]
    exact this
  have := h.last
  exact ⟨h.n, h.steps, h.la, h.aft, by show (0 : Int) ≤ ((20 - ea % 21 : Nat) : Int) ∧ ((20 - ea % 21 : Nat) : Int) ≤ 20; omega, by show (20 : Int) ≤ x.last + fu ∧ x.last + fu ≤ 600; omega, h.takes, by simp [moreD], fun n hn => by
    obtain ⟨i, hi, rfl⟩ := List.mem_map.1 hn
    have := moreF_rng (ea := ea) (happ i (List.mem_range.1 hi))
    omega, h.lw, h.win, h.lr, h.area, by show (0 : Int) ≤ 0 ∧ (0 : Int) ≤ 4; omega⟩
theorem more_eased (h : MadeX p x) (hx1 : x.first = 20) : Eased { x with blast := 0 } (moreD x ea fu p.steps.length) p.steps.length := by
  refine ⟨rfl, rfl, rfl, by show ((20 - ea % 21 : Nat) : Int) ≤ x.first; omega, by show x.last ≤ x.last + fu; omega, fun i hi => ?_⟩
  have hi' : i < x.approved.length := by rw [h.lp]; exact hi
  have ha : -1 ≤ appS x i ∧ appS x i ≤ 254 := by
    have := h.app _ (List.getElem_mem hi')
    simp only [appS, hi', List.getElem?_eq_getElem, Option.getD_some]
    exact this
  have e1 : appS { x with blast := 0 } i = appS x i := rfl
  have e2 : appS (moreD x ea fu p.steps.length) i = moreF x ea i := by simp [appS, moreD, hi]
  have h9 := moreF_rng (ea := ea) ha
  rw [e1, e2]
  by_cases h1 : moreF x ea i = -1
  · exact .inl ⟨h9.2.2.2 h1, h1⟩
  · exact .inr ⟨h1, h9.2.2.1⟩
end
end Go.Proofs.YtopfddchckdhgaaGreat
