/- Facts that the simplifier carries from world to world. -/
import Derived.Test.YtgickfllblmhpaaDoorOwn
import Derived.Test.YtgickfllblmhpaaDoorLib1
namespace Go.Proofs.YtgickfllblmhpaaDoor
set_option linter.unusedSimpArgs false
set_option linter.unusedVariables false
open Go Go.RowKit
set_option maxRecDepth 100000
/-- Block b was there in w, and is in w' as it was. -/
def Kp (b : Nat) (w w' : World) : Prop := b < w.heap.size ∧ w'.heap[b]? = w.heap[b]?
/-- All that lies below B is in w' as it was in w. -/
def Bl (B : Nat) (w w' : World) : Prop := B ≤ w.heap.size ∧ Below B w w'
section
variable {P : Program} {w w' a : World} {b B : Nat} {t : TypeId} {cs : List Value}
theorem Kp.lt (h : Kp b a w) : b < w.heap.size := by
  rcases Nat.lt_or_ge b w.heap.size with h1 | h1
  · exact h1
  · have h2 := h.2
    rw [Array.getElem?_eq_none h1] at h2
    rw [Array.getElem?_eq_getElem h.1] at h2
    cases h2
theorem Kp.ext (h : Kp b a w) (hx : Ext w w') : Kp b a w' := ⟨h.1, (hx.block b h.lt).trans h.2⟩
theorem Kp.chg {b' : Nat} (h : Kp b a w) (hx : Chg w w' b') (hne : ¬ b = b') : Kp b a w' := ⟨h.1, (hx.block b h.lt hne).trans h.2⟩
theorem Bl.ext (h : Bl B a w) (hx : Ext w w') : Bl B a w' := ⟨h.1, h.2.trans (hx.mono (Nat.le_trans h.1 h.2.size))⟩
theorem Bl.chg (h : Bl B a w) (hx : Chg w w' b) (hB : B ≤ b) : Bl B a w' := ⟨h.1, h.2.trans (hx.below hB (Nat.le_trans h.1 h.2.size))⟩
theorem Bl.refl (h : B ≤ w.heap.size) : Bl B w w := ⟨h, Below.refl _ _⟩
theorem Bl.size (h : Bl B a w) : B ≤ w.heap.size := Nat.le_trans h.1 h.2.size
theorem Bl.toExt (h : Bl a.heap.size a w) : Ext a w := h.2
theorem Blk.kp (h : Blk w b t cs) (k : Kp b w w') : Blk w' b t cs := k.2.trans h
theorem Sl.bl {sz : Nat} {k : Option Nat} {v : Value} {xs : List Value} (h : Sl w B k sz v xs) (hb : Bl B w w') : Sl w' B k sz v xs := h.below hb.2 (Nat.le_refl _)
/-- What a step that keeps all gives. -/
abbrev St (w w' : World) : Prop := (∀ b a, Kp b a w → Kp b a w') ∧ (∀ B a, Bl B a w → Bl B a w') ∧ (∀ a, Ext a w → Ext a w') ∧ (∀ b, b < w.heap.size → b < w'.heap.size) ∧ (∀ B, B ≤ w.heap.size → B ≤ w'.heap.size)
theorem Ext.st (h : Ext w w') : St w w' := ⟨fun _ _ k => k.ext h, fun _ _ k => k.ext h, fun _ k => k.trans h, fun _ k => Nat.lt_of_lt_of_le k h.size, fun _ k => Nat.le_trans k h.size⟩
/-- A store into a block of which all is known. -/
def stX (b : Nat) (t : TypeId) (cs : List Value) (t' : TypeId) (a v : Value) (w : World) (f : World → Prop) : Prop := Blk w b t cs → storeX Tryd.prog t' a v w f
/-- A block whose cells are known: how it reads, how it is written. -/
abbrev Bk (w : World) (b : Nat) (t : TypeId) (cs : List Value) : Prop := (∀ w', Kp b w w' → ∀ i, w'.cell? ⟨b, i, none⟩ = cs[i]?) ∧ (∀ w', Kp b w w' → Blk w' b t cs) ∧ Kp b w w ∧ (b < w.heap.size) ∧ (∀ w', Kp b w w' → ∀ t' o v f, storeX Tryd.prog t' (.pointer (some ⟨b, o, none⟩)) v w' f = stX b t cs t' (.pointer (some ⟨b, o, none⟩)) v w' f)
/-- A new block: other than all that were. -/
abbrev Nw (w : World) (b : Nat) : Prop := (∀ b', b' < w.heap.size → ¬ b' = b ∧ ¬ b = b') ∧ (∀ B, B ≤ w.heap.size → B ≤ b)
theorem Blk.bk (h : Blk w b t cs) : Bk w b t cs := ⟨fun _ k i => (h.kp k).cell i, fun _ k => h.kp k, ⟨h.lt, rfl⟩, h.lt, fun w' k t' o v f => by unfold stX; simp [h.kp k]⟩
theorem Nw.of (h : w.heap.size ≤ b) : Nw w b := ⟨fun b' hb => ⟨by omega, by omega⟩, fun _ hB => Nat.le_trans hB h⟩
/-- What a step that writes block b gives. -/
abbrev Sc (w w' : World) (b : Nat) : Prop := (∀ b' a, Kp b' a w → ¬ b' = b → Kp b' a w') ∧ (∀ B a, Bl B a w → B ≤ b → Bl B a w') ∧ (∀ a, Ext a w → a.heap.size ≤ b → Ext a w') ∧ (∀ b', b' < w.heap.size → b' < w'.heap.size) ∧ (∀ B, B ≤ w.heap.size → B ≤ w'.heap.size)
theorem Chg.sc (h : Chg w w' b) : Sc w w' b := ⟨fun _ _ k n => k.chg h n, fun _ _ k n => k.chg h n, fun a k n => k.trans' (h.below n k.size), fun _ k => Nat.lt_of_lt_of_le k h.size, fun _ k => Nat.le_trans k h.size⟩
theorem Ext.size_le (h : Ext a w) : a.heap.size ≤ w.heap.size := h.size
end
section
variable {P : Program} {w : World} {t : TypeId} {cs : List Value}
theorem alloc_k {f : Value → World → Prop} (h : ∀ b w', Now w' → Bk w' b t cs → St w w' → Nw w b → f (.pointer (some ⟨b, 0, none⟩)) w') : allocX t cs w f :=
  alloc_intro fun b w' hb hx hn => h b w' trivial hb.bk hx.st (Nw.of hn)
theorem row_k {n : Nat} {f : Value → World → Prop} (h : ∀ b w', Now w' → Bk w' b t cs → St w w' → Nw w b → f (.slice (some ⟨b, 0, none⟩) n n) w') : rowX t cs n w f :=
  row_intro fun b w' hb hx hn => h b w' trivial hb.bk hx.st (Nw.of hn)
theorem ret_k {f : FuncId} {args : Array Value} {r : Value} {K : Value → World → Prop} (h : Ret P f args w r) (hk : ∀ w', Now w' → St w w' → K r w') : CallsV P f args w K :=
  ret_bind h fun w' hx => hk w' trivial hx.st
theorem call_k {f : FuncId} {args : Array Value} {Φ : Value → World → Prop} {K : Value → World → Prop} (h : CallsV P f args w fun v w' => Ext w w' ∧ Φ v w') (hk : ∀ v w', Now w' → St w w' → Φ v w' → K v w') : CallsV P f args w K :=
  CallsV.mono h fun v w' ⟨hx, hv⟩ => hk v w' trivial hx.st hv
theorem ext_k {K : World → Prop} (h : ∀ w', Now w' → St w w' → K w') : ∀ w', Ext w w' → K w' := fun w' hx => h w' trivial hx.st
theorem qret_k {f : FuncId} {args : Array Value} {k : Value → World → Prop} {v : Value} (h : ∀ w', Now w' → St w w' → Ret P f args w' v) (hk : k v w) : qret P w f args k := ⟨v, fun w' hx => h w' trivial hx.st, hk⟩
/-- A call that hands back a truth value, whichever. -/
def RetB (P : Program) (f : FuncId) (args : Array Value) (w : World) : Prop := CallsV P f args w fun v w' => (∃ b, v = .bool b) ∧ Ext w w'
theorem retb_k {f : FuncId} {args : Array Value} {K : Value → World → Prop} (h : RetB P f args w) (hk : ∀ b w', Now w' → St w w' → K (.bool b) w') : CallsV P f args w K :=
  CallsV.mono h fun v w' ⟨⟨b, e⟩, hx⟩ => by subst e; exact hk b w' trivial hx.st
theorem at_f (f : FuncId) {args : Array Value} {K : Value → World → Prop} (h : CallsV P f args w K) : CallsV P f args w K := h
theorem at_q (f : FuncId) {args : Array Value} {K : Value → World → Prop} (h : qret P w f args K) : qret P w f args K := h
theorem st_one {b : Nat} {t' : TypeId} {i : Nat} {v : Value} {f : World → Prop} (ht : tyK Tryd.prog t' = some none) (hi : i < cs.length) (hv : v.oneCell' = true)
    (h : ∀ w', Now w' → Bk w' b t (cs.set i v) → Sc w w' b → f w') : stX b t cs t' (.pointer (some ⟨b, i, none⟩)) v w f := by
  intro hb
  exact store_intro ht hb hi hv fun w' hb' hc => h w' trivial hb'.bk hc.sc
theorem st_agg {b : Nat} {t' : TypeId} {vs : List Value} {f : World → Prop} (ht : tyK Tryd.prog t' = some (some vs.length)) (hl : cs.length = vs.length) (hv : ∀ v ∈ vs, v.oneCell' = true)
    (h : ∀ w', Now w' → Bk w' b t vs → Sc w w' b → f w') : stX b t cs t' (.pointer (some ⟨b, 0, none⟩)) (.agg vs.toArray) w f := by
  intro hb
  exact storeAgg_intro ht hb hl hv fun w' hb' hc => h w' trivial hb'.bk hc.sc
/-- A slice that reads as a list. -/
abbrev SlK (w : World) (B sz : Nat) (k : Option Nat) (v : Value) {α : Type} (l : List α) (enc : α → Value) : Prop := SlWf v ∧ isSl v ∧ lenN v = l.length ∧ v.oneCell' = true ∧ cellsL v = [v] ∧ (∀ w', Bl B w w' → ∀ i (hi : i < l.length), rdv k w' (elemAt v sz i) = some (enc l[i])) ∧ (∀ w', Bl B w w' → Sl w' B k sz v (l.map enc)) ∧ Bl B w w
theorem Sl.k {B sz : Nat} {k : Option Nat} {v : Value} {α : Type} {l : List α} {enc : α → Value} (h : Sl w B k sz v (l.map enc)) (hB : B ≤ w.heap.size) : SlK w B sz k v l enc :=
  ⟨h.wf, h.sl, by simpa using h.len, h.one, cellsL_one h.one, fun _ hb i hi => (h.bl hb).at_ i hi, fun _ hb => h.bl hb, Bl.refl hB⟩
end
theorem pos0 {n : Nat} (h : 0 < n) : (((n : Int) == 0) = false) ∧ ((((n : Int) = 0) = False)) := by constructor <;> (simp; omega)
theorem any_take {α : Type} {l : List α} {k : Nat} (h : k < l.length) (p : α → Bool) : (l.take (k + 1)).any p = ((l.take k).any p || p l[k]) := by
  rw [List.take_succ_eq_append_getElem h, List.any_append]; simp
theorem all_take {α : Type} {l : List α} {k : Nat} (h : k < l.length) (p : α → Bool) : (l.take (k + 1)).all p = ((l.take k).all p && p l[k]) := by
  rw [List.take_succ_eq_append_getElem h, List.all_append]; simp
theorem take_all {α : Type} (l : List α) : l.take l.length = l := List.take_of_length_le (Nat.le_refl _)
theorem nat0 : ((0 : Nat) : Int) = 0 := rfl
/-- What the end of a round owes. -/
def nextK (N : Nat) (I : Nat → Fr → World → Prop) (w : World) (m : Nat) (g' : Fr) (w' : World) : Prop := ∃ m', m' < m ∧ ∃ k, k + m' = N ∧ I k g' w' ∧ Ext w w'
theorem next_k {N k m : Nat} {I : Nat → Fr → World → Prop} {w w' : World} {g' : Fr} (hk : k + m = N) (hlt : k < N) (hI : I (k + 1) g' w') (hb : Bl w.heap.size w w') : nextK N I w m g' w' := ⟨m - 1, by omega, k + 1, by omega, hI, hb.toExt⟩
/-- A loop over 0 .. N-1 that changes nothing that was there. -/
theorem loop_k {P : Program} {n : Nat} {c : Code} {Q : Exit → Fr → World → Prop} {g : Fr} {w : World} (N : Nat) (I : Fr → Nat → Fr → World → Prop) (hd : dstsOk n c = true) (hN : N ≤ 9223372036854775807) (h0 : I g 0 g w)
    (more : ∀ k m g' w', k + m = N → k < N → Now w' → St w w' → Bl w.heap.size w w → IntKind.i64.wrap ((k : Int) + 1) = ((k + 1 : Nat) : Int) → I g k g' w' → wpx P n c (thenX (nextK N (I g) w m) Q) g' w')
    (last : ∀ g' w', Now w' → St w w' → Bl w.heap.size w w → I g N g' w' → wpx P n c (thenX (nextK N (I g) w 0) Q) g' w') : loopX P n c Q g w := by
  refine loopX_intro (fun m g' w' => ∃ k, k + m = N ∧ I g k g' w' ∧ Ext w w') N hd ⟨0, by omega, h0, Ext.refl w⟩ ?_
  rintro m g' w' ⟨k, hk, hI, hx⟩
  rcases Nat.lt_or_ge k N with hlt | hge
  · exact more k m g' w' hk hlt trivial hx.st (Bl.refl (Nat.le_refl _)) (by rw [wrap_i64_id] <;> omega) hI
  · have : k = N := by omega
    subst this
    obtain rfl : m = 0 := by omega
    exact last g' w' trivial hx.st (Bl.refl (Nat.le_refl _)) hI
end Go.Proofs.YtgickfllblmhpaaDoor
