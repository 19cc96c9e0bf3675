
/- A row of rows of the call's own that is filled row by row. -/
import Derived.Test.YteeaccnklkcchaaDoorWorks10
namespace Go.Proofs.YteeaccnklkcchaaDoor
set_option linter.unusedSimpArgs false
set_option linter.unusedVariables false
open Go Go.RowKit
set_option maxRecDepth 100000
set_option linter.unusedSectionVars false
set_option maxHeartbeats 2000000
/-- Block b holds rows of the call's own, each in a block of its own. -/
structure RowsB (w : World) (B b : Nat) (us : List Value) (ll : List (List Int)) : Prop where
  hb : Blk w b 25 us
  len : us.length = ll.length
  own : ∀ i (h : i < us.length), Own w B 3 1 us[i] ((ll.getD i []).map intC)
  sep : ∀ i j (hi : i < us.length) (hj : j < us.length), i ≠ j → ∀ c, us[i].ownBlock = some c → us[j].ownBlock ≠ some c
section
variable {w w' : World} {B b : Nat} {us : List Value} {ll : List (List Int)}
theorem RowsB.ext (h : RowsB w B b us ll) (hx : Ext w w') : RowsB w' B b us ll := ⟨h.hb.ext hx, h.len, fun i hi => (h.own i hi).ext hx, h.sep⟩
theorem RowsB.start {n : Nat} (hb : Blk w b 25 (List.replicate n (.slice none 0 0))) : RowsB w B b (List.replicate n (.slice none 0 0)) (List.replicate n []) := by
  refine ⟨hb, by simp, fun i hi => ?_, fun i j hi hj _ c hc => ?_⟩
  · simp only [List.length_replicate] at hi
    simp only [List.getElem_replicate, List.getD_eq_getElem?_getD, List.getElem?_replicate, if_pos hi, Option.getD_some, List.map_nil]
    exact Own.nil _ _ _ _
  · simp only [List.getElem_replicate, Value.ownBlock] at hc
    cases hc
/-- What an append to one of the rows hands back. -/
structure RowP (w w' : World) (B b i : Nat) (us : List Value) (ll : List (List Int)) (x : Int) (v : Value) : Prop where
  own : Own w' B 3 1 v ((ll.getD i [] ++ [x]).map intC)
  keep : ∀ c, c < w.heap.size → (∀ h : i < us.length, us[i].ownBlock ≠ some c) → w'.heap[c]? = w.heap[c]?
  blk : ∀ c, v.ownBlock = some c → (∃ h : i < us.length, us[i].ownBlock = some c) ∨ w.heap.size ≤ c
  chg : w'.os = w.os ∧ w'.tape = w.tape ∧ w'.output = w.output ∧ w.heap.size ≤ w'.heap.size
theorem RowsB.append {cp c : Nat} {x : Int} {i : Nat} {k : Value → World → Prop} (h : RowsB w B b us ll) (hi : i < us.length) (hc : Blk w c 3 [intV x]) (hbound : (ll.getD i []).length < 1000000000000) (hB : B ≤ w.heap.size)
    (hk : ∀ v w', Now w' → RowP w w' B b i us ll x v → k v w') : appX Tryd.prog 25 25 25 us[i] (.slice (some ⟨c, 0, none⟩) 1 cp) w k := by
  have hown := h.own i hi
  refine append_both (e := 3) (sz := 1) (by_ := 8) (z := .int .i64 0) (c := intC) x KR KR rfl (by decide) (by decide) hown hc rfl (by simp [intC, intV, one_int]) hbound hB (fun v' w' hf hx ho => ?_) (fun g cp' w' he hlt hch ho => ?_)
  · refine hk v' w' trivial ⟨ho.more hB, fun c hc _ => hx.block c hc, fun c hc => .inr (ho.lt c hc).1, hx.os, hx.tape, hx.output, hx.size⟩
  · have hg : us[i].ownBlock = some g := by rw [he]; rfl
    refine hk _ w' trivial ⟨ho, fun c hc hne => hch.block c hc fun e => hne hi (by rw [e]; exact hg), fun c hc => .inl ⟨hi, ?_⟩, hch.os, hch.tape, hch.output, hch.size⟩
    obtain rfl : g = c := Option.some.inj hc
    exact hg
theorem RowsB.ne {i : Nat} (h : RowsB w B b us ll) (hi : i < us.length) : us[i].ownBlock ≠ some b := (h.own i hi).ne h.hb (by decide)
/-- The append and the store. -/
theorem RowsB.put {w1 w2 : World} {i : Nat} {x : Int} {v : Value} (h : RowsB w B b us ll) (hi : i < us.length) (hp : RowP w w1 B b i us ll x v) (hb2 : Blk w2 b 25 (us.set i v)) (hch : Chg w1 w2 b) : RowsB w2 B b (us.set i v) (ll.set i (ll.getD i [] ++ [x])) := by
  have hb1 : Blk w1 b 25 us := (hp.keep b h.hb.lt fun h2 => h.ne h2).trans h.hb
  have hvb : v.ownBlock ≠ some b := hp.own.ne hb1 (by decide)
  refine ⟨hb2, by simp [h.len], fun j hj => ?_, fun j k hj hk hne c hc => ?_⟩
  · simp only [List.length_set] at hj
    by_cases e : i = j
    · subst e
      simp only [List.getElem_set_self, List.getD_eq_getElem?_getD, List.getElem?_set_self (show i < ll.length by rw [← h.len]; exact hj), Option.getD_some]
      have := hp.own.chg hch hvb
      simpa only [List.getD_eq_getElem?_getD] using this
    · simp only [List.getElem_set_ne e, List.getD_eq_getElem?_getD, List.getElem?_set_ne e]
      have ho := h.own j hj
      have h1 : Own w1 B 3 1 us[j] ((ll.getD j []).map intC) := ho.keep fun c hc => hp.keep c (ho.lt c hc).2 fun h2 e2 => h.sep j i hj h2 (fun e3 => e e3.symm) c hc e2
      have := h1.chg hch (h.ne hj)
      simpa only [List.getD_eq_getElem?_getD] using this
  · simp only [List.length_set] at hj hk
    by_cases e : i = j
    · subst e
      rw [List.getElem_set_self] at hc
      rw [List.getElem_set_ne hne]
      intro hc2
      rcases hp.blk c hc with ⟨h2, h3⟩ | h3
      · exact h.sep i k h2 hk hne c h3 hc2
      · have := ((h.own k hk).lt c hc2).2
        omega
    · rw [List.getElem_set_ne e] at hc
      by_cases e2 : i = k
      · subst e2
        rw [List.getElem_set_self]
        intro hc2
        rcases hp.blk c hc2 with ⟨h2, h3⟩ | h3
        · exact h.sep j i hj h2 hne c hc h3
        · have := ((h.own j hj).lt c hc).2
          omega
      · rw [List.getElem_set_ne e2]
        exact h.sep j k hj hk hne c hc
theorem RowsB.toLL (h : RowsB w B b us ll) (hs : us.length ≤ 1000000) : LLR w w.heap.size (.slice (some ⟨b, 0, none⟩) us.length us.length) us ll := by
  refine ⟨row_sl h.hb rfl (by omega), h.len, fun i hi => ?_⟩
  have hu : i < us.length := by rw [h.len]; exact hi
  refine ⟨us[i], List.getElem?_eq_getElem hu, ?_⟩
  have := (h.own i hu).sl1 (f := intV)
  simpa [List.getD_eq_getElem?_getD, List.getElem?_eq_getElem hi] using this
theorem RowP.below {i : Nat} {x : Int} {v : Value} (h : RowsB w B b us ll) (hp : RowP w w' B b i us ll x v) (hB : B ≤ w.heap.size) : Below B w w' :=
  ⟨hp.chg.1, hp.chg.2.1, hp.chg.2.2.1, hp.chg.2.2.2, fun c hc => hp.keep c (by omega) fun h2 e => by have := ((h.own i h2).lt c e).1; omega⟩
theorem RowP.blkb {i : Nat} {x : Int} {v : Value} (h : RowsB w B b us ll) (hp : RowP w w' B b i us ll x v) : Blk w' b 25 us := (hp.keep b h.hb.lt fun h2 => h.ne h2).trans h.hb
end
end Go.Proofs.YteeaccnklkcchaaDoor
