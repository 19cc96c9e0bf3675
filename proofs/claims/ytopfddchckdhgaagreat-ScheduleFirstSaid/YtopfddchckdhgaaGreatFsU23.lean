
/- A timetable that grows in a box, beside what made made. No program is walked here. -/
import Derived.Test.YtopfddchckdhgaaGreatLawU23
namespace Go.Proofs.YtopfddchckdhgaaGreat
set_option linter.unusedSimpArgs false
set_option linter.unusedVariables false
open Go Go.RowKit
set_option maxRecDepth 100000
set_option linter.unusedSectionVars false
set_option maxHeartbeats 1000000
structure FsI (w3 : World) (b7 b8 b9 b10 b13 : Nat) (cS cP cT cM : List Value) (tv : Value) (bl : List Int) (Bm Bq k : Nat) (e : Int) (w' : World) : Prop where
  ext : Ext w3 w'
  k7 : Blk w' b7 29 cS
  k8 : Blk w' b8 33 cP
  k9 : Blk w' b9 41 cT
  k10 : Blk w' b10 45 cM
  size : Bq ≤ w'.heap.size
  tv : Own w' Bm 3 1 tv (bl.map intC)
  row : ∃ (ov : Value) (l : List Int), Blk w' b13 45 [ov, .int .i64 e] ∧ Own w' Bq 3 1 ov (l.map intC) ∧ l.length = k ∧ ∀ n ∈ l, 0 ≤ n ∧ n ≤ 1000
structure FsS (w3 : World) (b10 b13 : Nat) (tv : Value) (Bq : Nat) : Prop where
  h13 : w3.heap.size ≤ b13 ∧ b13 < Bq
  hq : w3.heap.size ≤ Bq
  ne : ¬ b10 = b13
  tv : ∀ b, tv.ownBlock = some b → b < Bq
section
variable {w3 wa wb wc wd : World} {b7 b8 b9 b10 b13 Bm Bq k : Nat} {cS cP cT cM : List Value} {tv ov v' : Value} {bl l : List Int} {e e' x : Int}
theorem FsI.ext_ (h : FsI w3 b7 b8 b9 b10 b13 cS cP cT cM tv bl Bm Bq k e wa) (hx : Ext wa wb) : FsI w3 b7 b8 b9 b10 b13 cS cP cT cM tv bl Bm Bq k e wb := by
  obtain ⟨ov, l, h1, h2, h3⟩ := h.row
  exact ⟨h.ext.trans hx, h.k7.ext hx, h.k8.ext hx, h.k9.ext hx, h.k10.ext hx, Nat.le_trans h.size hx.size, h.tv.ext hx, ov, l, h1.ext hx, h2.ext hx, h3⟩
theorem FsI.box (hS : FsS w3 b10 b13 tv Bq) (h : FsI w3 b7 b8 b9 b10 b13 cS cP cT cM tv bl Bm Bq k e wa) (h2 : Own wa Bq 3 1 ov (l.map intC)) (h3 : l.length = k ∧ ∀ n ∈ l, 0 ≤ n ∧ n ≤ 1000) (h1 : Blk wa b13 45 [ov, .int .i64 e]) (hc : Chg wa wb b13) (hb : Blk wb b13 45 [ov, .int .i64 e']) : FsI w3 b7 b8 b9 b10 b13 cS cP cT cM tv bl Bm Bq k e' wb := by
  have key : ∀ {c T cs}, Blk wa c T cs → ¬ T = 45 → Blk wb c T cs := fun {c T cs} hk hn => hc.blk hk fun e9 => by subst e9; exact hn (hk.type h1)
  exact ⟨h.ext.trans' (hc.below hS.h13.1 h.ext.size), key h.k7 (by decide), key h.k8 (by decide), key h.k9 (by decide), hc.blk h.k10 hS.ne, Nat.le_trans h.size hc.size, h.tv.kept fun c cur _ hk => key hk (by decide), ov, l, hb, h2.kept fun c cur _ hk => key hk (by decide), h3⟩
theorem FsI.grow (hS : FsS w3 b10 b13 tv Bq) (h : FsI w3 b7 b8 b9 b10 b13 cS cP cT cM tv bl Bm Bq k e wa) (h1 : Blk wa b13 45 [ov, .int .i64 e]) (h2 : Own wa Bq 3 1 ov (l.map intC)) (h3 : l.length = k ∧ ∀ n ∈ l, 0 ≤ n ∧ n ≤ 1000) (hx : Ext wa wb) (hT : TBn (fun c => ov.ownBlock = some c) wb wc) (ho : Own wc Bq 3 1 v' ((l ++ [x]).map intC)) (hc : Chg wc wd b13) (hb : Blk wd b13 45 [v', .int .i64 e]) (hr : 0 ≤ x ∧ x ≤ 1000) : FsI w3 b7 b8 b9 b10 b13 cS cP cT cM tv bl Bm Bq (k + 1) e wd := by
  have hB := h.ext_ hx
  have key : ∀ {c T cs}, Blk wb c T cs → ¬ T = 3 → Blk wc c T cs := fun {c T cs} hk hn => hk.tb hT fun e9 => by obtain ⟨cur, h9⟩ := (h2.ext hx).obj23 e9; exact hn (hk.type h9)
  have hxc : Ext w3 wc := hB.ext.trans' ⟨hT.os, hT.tape, hT.output, hT.size, fun c hc => hT.block c (Nat.lt_of_lt_of_le hc hB.ext.size) fun e9 => by have := (h2.lt _ e9).1; have := hS.hq; omega⟩
  have htv : Own wc Bm 3 1 tv (bl.map intC) := hB.tv.keep fun c h9 => hT.block c (hB.tv.lt c h9).2 fun e9 => by have := (h2.lt _ e9).1; have := hS.tv c h9; omega
  have k13 : Blk wc b13 45 [ov, .int .i64 e] := key (h1.ext hx) (by decide)
  have key2 : ∀ {c T cs}, Blk wc c T cs → ¬ T = 45 → Blk wd c T cs := fun {c T cs} hk hn => hc.blk hk fun e9 => by subst e9; exact hn (hk.type k13)
  exact ⟨hxc.trans' (hc.below hS.h13.1 hxc.size), key2 (key hB.k7 (by decide)) (by decide), key2 (key hB.k8 (by decide)) (by decide), key2 (key hB.k9 (by decide)) (by decide), hc.blk (key hB.k10 (by decide)) hS.ne, Nat.le_trans hB.size (Nat.le_trans hT.size hc.size), htv.kept fun c cur _ hk => key2 hk (by decide), v', l ++ [x], hb, ho.kept fun c cur _ hk => key2 hk (by decide), by simp [h3.1], fun n hn => by
    rcases List.mem_append.1 hn with hn | hn
    · exact h3.2 n hn
    · rw [List.mem_singleton.1 hn]; exact hr⟩
end
end Go.Proofs.YtopfddchckdhgaaGreat
