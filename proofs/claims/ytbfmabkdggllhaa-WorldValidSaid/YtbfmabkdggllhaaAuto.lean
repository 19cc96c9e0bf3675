/- Facts that the simplifier carries from world to world. -/
import Derived.Test.YtbfmabkdggllhaaOwn
import Derived.Test.YtbfmabkdggllhaaLib1
import Derived.Test.YtbfmabkdggllhaaDom
namespace Go.Proofs.Ytbfmabkdggllhaa
set_option linter.unusedSimpArgs false
set_option linter.unusedVariables false
open Go Go.RowKit
set_option maxRecDepth 100000
/-- Block b was there in w, and is in w' as it was. -/
def Kp (b : Nat) (w w' : World) : Prop := b < w.heap.size ∧ w'.heap[b]? = w.heap[b]?
/-- All that lies below B is in w' as it was in w. -/
def Bl (B : Nat) (w w' : World) : Prop := B ≤ w.heap.size ∧ Below B w w'
/-- The block of a slice that is not empty was there in w, and is in w' as it was. -/
def Vp (v : Value) (w w' : World) : Prop := ∀ c, blockOf v = some c → 0 < lenN v → Kp c w w'
/-- The block of a value, if it has one, was there in w, and is in w' as it was. -/
def Bp (v : Value) (w w' : World) : Prop := ∀ c, blockOf v = some c → Kp c w w'
/-- Of what was there in w, block b alone may have turned. -/
def Cg (b : Nat) (w w' : World) : Prop := Chg w w' b
section
variable {P : Program} {w w' a : World} {b B : Nat} {t : TypeId} {cs : List Value}
theorem Kp.lt (h : Kp b a w) : b < w.heap.size := by
  rcases Nat.lt_or_ge b w.heap.size with h1 | h1
  · exact h1
  · have h2 := h.2
    rw [Array.getElem?_eq_none h1] at h2
    rw [Array.getElem?_eq_getElem h.1] at h2
    cases h2
theorem Kp.ext (h : Kp b a w) (hx : Ext w w') : Kp b a w' := ⟨h.1, (hx.block b h.lt).trans h.2⟩
theorem Kp.chg {b' : Nat} (h : Kp b a w) (hx : Chg w w' b') (hne : ¬ b = b') : Kp b a w' := ⟨h.1, (hx.block b h.lt hne).trans h.2⟩
theorem Bl.ext (h : Bl B a w) (hx : Ext w w') : Bl B a w' := ⟨h.1, h.2.trans (hx.mono (Nat.le_trans h.1 h.2.size))⟩
theorem Bl.chg (h : Bl B a w) (hx : Chg w w' b) (hB : B ≤ b) : Bl B a w' := ⟨h.1, h.2.trans (hx.below hB (Nat.le_trans h.1 h.2.size))⟩
theorem Bl.refl (h : B ≤ w.heap.size) : Bl B w w := ⟨h, Below.refl _ _⟩
theorem Bl.size (h : Bl B a w) : B ≤ w.heap.size := Nat.le_trans h.1 h.2.size
theorem Bl.toExt (h : Bl a.heap.size a w) : Ext a w := h.2
theorem Blk.kp (h : Blk w b t cs) (k : Kp b w w') : Blk w' b t cs := k.2.trans h
theorem Sl.bl {sz : Nat} {k : Option Nat} {v : Value} {xs : List Value} (h : Sl w B k sz v xs) (hb : Bl B w w') : Sl w' B k sz v xs := h.below hb.2 (Nat.le_refl _)
theorem Chg.trans_ext {b : Nat} (h : Chg a w b) (hx : Ext w w') : Chg a w' b := ⟨hx.os.trans h.os, hx.tape.trans h.tape, hx.output.trans h.output, Nat.le_trans h.size hx.size, fun k hk hne => (hx.block k (Nat.lt_of_lt_of_le hk h.size)).trans (h.block k hk hne)⟩
theorem Chg.trans_chg {b b' : Nat} (h : Chg a w b) (hx : Chg w w' b') (hb : b' = b ∨ a.heap.size ≤ b') : Chg a w' b := ⟨hx.os.trans h.os, hx.tape.trans h.tape, hx.output.trans h.output, Nat.le_trans h.size hx.size, fun k hk hne => (hx.block k (Nat.lt_of_lt_of_le hk h.size) (by omega)).trans (h.block k hk hne)⟩
theorem Chg.refl' (w : World) (b : Nat) : Chg w w b := ⟨rfl, rfl, rfl, Nat.le_refl _, fun _ _ _ => rfl⟩
/-- What a step that keeps all gives. -/
abbrev St (w w' : World) : Prop := (∀ b a, Kp b a w → Kp b a w') ∧ (∀ B a, Bl B a w → Bl B a w') ∧ (∀ a, Ext a w → Ext a w') ∧ (∀ b, b < w.heap.size → b < w'.heap.size) ∧ (∀ B, B ≤ w.heap.size → B ≤ w'.heap.size) ∧ (∀ v a, Vp v a w → Vp v a w') ∧ (∀ b a, Cg b a w → Cg b a w') ∧ (∀ v a, Bp v a w → Bp v a w')
theorem Ext.st (h : Ext w w') : St w w' := ⟨fun _ _ k => k.ext h, fun _ _ k => k.ext h, fun _ k => k.trans h, fun _ k => Nat.lt_of_lt_of_le k h.size, fun _ k => Nat.le_trans k h.size, fun _ _ k c hc hl => (k c hc hl).ext h, fun _ _ k => k.trans_ext h, fun _ _ k c hc => (k c hc).ext h⟩
/-- A store into a block of which all is known. -/
def stX (b : Nat) (t : TypeId) (cs : List Value) (t' : TypeId) (a v : Value) (w : World) (f : World → Prop) : Prop := Blk w b t cs → storeX Try.prog t' a v w f
/-- A block whose cells are known: how it reads, how it is written. -/
abbrev Bk (w : World) (b : Nat) (t : TypeId) (cs : List Value) : Prop := (∀ w', Kp b w w' → ∀ i, w'.cell? ⟨b, i, none⟩ = cs[i]?) ∧ (∀ w', Kp b w w' → Blk w' b t cs) ∧ Kp b w w ∧ (b < w.heap.size) ∧ (∀ w', Kp b w w' → ∀ t' o v f, storeX Try.prog t' (.pointer (some ⟨b, o, none⟩)) v w' f = stX b t cs t' (.pointer (some ⟨b, o, none⟩)) v w' f)
/-- A new block: other than all that were. -/
abbrev Nw (w : World) (b : Nat) : Prop := (∀ b', b' < w.heap.size → ¬ b' = b ∧ ¬ b = b') ∧ (∀ B, B ≤ w.heap.size → B ≤ b) ∧ (∀ b', b' < w.heap.size → b' < b)
theorem Blk.bk (h : Blk w b t cs) : Bk w b t cs := ⟨fun _ k i => (h.kp k).cell i, fun _ k => h.kp k, ⟨h.lt, rfl⟩, h.lt, fun w' k t' o v f => by unfold stX; simp [h.kp k]⟩
theorem Nw.of (h : w.heap.size ≤ b) : Nw w b := ⟨fun b' hb => ⟨by omega, by omega⟩, fun _ hB => Nat.le_trans hB h, fun _ hb => Nat.lt_of_lt_of_le hb h⟩
/-- What a step that writes block b gives. -/
abbrev Sc (w w' : World) (b : Nat) : Prop := (∀ b' a, Kp b' a w → ¬ b' = b → Kp b' a w') ∧ (∀ B a, Bl B a w → B ≤ b → Bl B a w') ∧ (∀ a, Ext a w → a.heap.size ≤ b → Ext a w') ∧ (∀ b', b' < w.heap.size → b' < w'.heap.size) ∧ (∀ B, B ≤ w.heap.size → B ≤ w'.heap.size) ∧ (∀ v a, Vp v a w → ¬ blockOf v = some b → Vp v a w') ∧ (∀ a, Cg b a w → Cg b a w') ∧ (∀ b2 a, Cg b2 a w → a.heap.size ≤ b → Cg b2 a w') ∧ (∀ v a, Bp v a w → ¬ blockOf v = some b → Bp v a w')
theorem Chg.sc (h : Chg w w' b) : Sc w w' b := ⟨fun _ _ k n => k.chg h n, fun _ _ k n => k.chg h n, fun a k n => k.trans' (h.below n k.size), fun _ k => Nat.lt_of_lt_of_le k h.size, fun _ k => Nat.le_trans k h.size, fun v a k n c hc hl => (k c hc hl).chg h (fun e => n (e ▸ hc)), fun a k => k.trans_chg h (.inl rfl), fun b2 a k n => k.trans_chg h (.inr n), fun v a k n c hc => (k c hc).chg h (fun e => n (e ▸ hc))⟩
theorem Ext.size_le (h : Ext a w) : a.heap.size ≤ w.heap.size := h.size
end
section
variable {P : Program} {w : World} {t : TypeId} {cs : List Value}
theorem alloc_k {f : Value → World → Prop} (h : ∀ b w', Now w' → Bk w' b t cs → St w w' → Nw w b → f (.pointer (some ⟨b, 0, none⟩)) w') : allocX t cs w f :=
  alloc_intro fun b w' hb hx hn => h b w' trivial hb.bk hx.st (Nw.of hn)
theorem at_row {n : Nat} {f : Value → World → Prop} (h : rowX t cs n w f) : rowX t cs n w f := h
theorem row1_k {n : Nat} {f : Value → World → Prop} (h1 : n = cs.length) (h2 : n ≤ 1000) (h : ∀ b w', Now w' → Bk w' b t cs → St w w' → Nw w b → (∀ w'', Kp b w' w'' → Sl w'' w''.heap.size none 1 (.slice (some ⟨b, 0, none⟩) n n) cs) → f (.slice (some ⟨b, 0, none⟩) n n) w') : rowX t cs n w f :=
  row_intro fun b w' hb hx hn => h b w' trivial hb.bk hx.st (Nw.of hn) fun w'' k => row_sl (hb.kp k) h1 (by omega)
theorem row_k {n : Nat} {f : Value → World → Prop} (h : ∀ b w', Now w' → Bk w' b t cs → St w w' → Nw w b → f (.slice (some ⟨b, 0, none⟩) n n) w') : rowX t cs n w f :=
  row_intro fun b w' hb hx hn => h b w' trivial hb.bk hx.st (Nw.of hn)
theorem ret_k {f : FuncId} {args : Array Value} {r : Value} {K : Value → World → Prop} (h : Ret P f args w r) (hk : ∀ w', Now w' → St w w' → K r w') : CallsV P f args w K :=
  ret_bind h fun w' hx => hk w' trivial hx.st
theorem call_k {f : FuncId} {args : Array Value} {Φ : Value → World → Prop} {K : Value → World → Prop} (h : CallsV P f args w fun v w' => Ext w w' ∧ Φ v w') (hk : ∀ v w', Now w' → St w w' → Φ v w' → K v w') : CallsV P f args w K :=
  CallsV.mono h fun v w' ⟨hx, hv⟩ => hk v w' trivial hx.st hv
theorem ext_k {K : World → Prop} (h : ∀ w', Now w' → St w w' → K w') : ∀ w', Ext w w' → K w' := fun w' hx => h w' trivial hx.st
theorem tail_k {K : World → Prop} {w : World} (h : ∀ w', Now w' → St w w' → K w') : ∀ w', Ext w w' → w'.heap = w.heap → K w' := fun w' hx _ => h w' trivial hx.st
theorem qret_k {f : FuncId} {args : Array Value} {k : Value → World → Prop} {v : Value} (h : ∀ w', Now w' → St w w' → Ret P f args w' v) (hk : k v w) : qret P w f args k := ⟨v, fun w' hx => h w' trivial hx.st, hk⟩
/-- A call that hands back a truth value, whichever. -/
def RetB (P : Program) (f : FuncId) (args : Array Value) (w : World) : Prop := CallsV P f args w fun v w' => (∃ b, v = .bool b) ∧ Ext w w'
theorem retb_k {f : FuncId} {args : Array Value} {K : Value → World → Prop} (h : RetB P f args w) (hk : ∀ b w', Now w' → St w w' → K (.bool b) w') : CallsV P f args w K :=
  CallsV.mono h fun v w' ⟨⟨b, e⟩, hx⟩ => by subst e; exact hk b w' trivial hx.st
theorem wpd_at (id : Nat) {n : Nat} {ops : Array Oper} {g : Fr} {K : Fr → World → Prop} (h : wpd P n id ops g w K) : wpd P n id ops g w K := h
theorem at_f (f : FuncId) {args : Array Value} {K : Value → World → Prop} (h : CallsV P f args w K) : CallsV P f args w K := h
theorem at_q (f : FuncId) {args : Array Value} {K : Value → World → Prop} (h : qret P w f args K) : qret P w f args K := h
theorem st_one {b : Nat} {t' : TypeId} {i : Nat} {v : Value} {f : World → Prop} (ht : tyK Try.prog t' = some none) (hi : i < cs.length) (hv : v.oneCell' = true)
    (h : ∀ w', Now w' → Bk w' b t (cs.set i v) → Sc w w' b → f w') : stX b t cs t' (.pointer (some ⟨b, i, none⟩)) v w f := by
  intro hb
  exact store_intro ht hb hi hv fun w' hb' hc => h w' trivial hb'.bk hc.sc
theorem st_agg {b : Nat} {t' : TypeId} {vs : List Value} {f : World → Prop} (ht : tyK Try.prog t' = some (some vs.length)) (hl : cs.length = vs.length) (hv : ∀ v ∈ vs, v.oneCell' = true)
    (h : ∀ w', Now w' → Bk w' b t vs → Sc w w' b → f w') : stX b t cs t' (.pointer (some ⟨b, 0, none⟩)) (.agg vs.toArray) w f := by
  intro hb
  exact storeAgg_intro ht hb hl hv fun w' hb' hc => h w' trivial hb'.bk hc.sc
theorem Sl.vp {B sz : Nat} {k : Option Nat} {v : Value} {xs : List Value} {w w' : World} (h : Sl w B k sz v xs) (hv : Vp v w w') : Sl w' B k sz v xs :=
  ⟨h.wf, h.len, h.cap, h.max, h.lt, fun i hi => by
    rw [rdv_keep (w := w) (fun b hb => (hv b (blockOf_elemAt v sz i b hb) (by rw [h.len]; omega)).2)]
    exact h.rd i hi⟩
theorem Own.far {B e sz b : Nat} {v : Value} {cs : List (List Value)} {w : World} (h : Own w B e sz v cs) (hb : b < B) : ¬ blockOf v = some b := by
  rw [h.block]
  intro he
  have := (h.lt b he).1
  omega
/-- A field of what a pointer points to. -/
def addF (v : Value) (off : Nat) : Value := match v with
  | .pointer (some a) => .pointer (some (a.add off))
  | _ => undef
def isPtr : Value → Prop
  | .pointer (some _) => True
  | _ => False
theorem fld_elem {v : Value} {sz i off : Nat} {w : World} {f : Value → World → Prop} : fldX (some off) (elemAt v sz i) w f = needX (isPtr (elemAt v sz i)) w (f (addF (elemAt v sz i) off)) := by
  unfold fldX needX addF
  cases elemAt v sz i with
  | pointer a => cases a <;> simp [isPtr]
  | _ => simp [isPtr]
theorem Sl.ptr {B sz : Nat} {k : Option Nat} {v : Value} {xs : List Value} {w : World} (h : Sl w B k sz v xs) {i : Nat} (hi : i < xs.length) : isPtr (elemAt v sz i) := by
  have h1 := h.wf
  have h2 := h.len
  cases v with
  | slice a n c => cases a with
    | some a => trivial
    | none => simp only [SlWf] at h1; simp only [lenN] at h2; omega
  | _ => exact h1.elim
theorem Sl.fld {B sz n : Nat} {v : Value} {xs : List Value} {w : World} (h : Sl w B (some n) sz v xs) {i off : Nat} (hi : i < xs.length) (hoff : off < n) : rdv none w (addF (elemAt v sz i) off) = (cellsL xs[i])[off]? := by
  have h1 := h.rd i hi
  have h2 := h.ptr hi
  cases he : elemAt v sz i with
  | pointer a => cases a with
    | some a =>
      rw [he] at h1
      have h1' : (rdN w a 0 n).map (fun l => Value.agg l.toArray) = some xs[i] := h1
      rw [Option.map_eq_some_iff] at h1'
      obtain ⟨l, hl, hx⟩ := h1'
      obtain ⟨h3, h4⟩ := rdN_some hl
      rw [← hx]
      have h5 : l[off]? = some l[off] := List.getElem?_eq_getElem (by omega)
      have h6 := h4 off _ h5
      simp only [addF, rdv, rd, cellsL]
      rw [Nat.zero_add] at h6
      show w.cell? (a.add off) = l[off]?
      rw [h6, h5]
    | none => rw [he] at h2; exact h2.elim
  | _ => rw [he] at h2; exact h2.elim
/-- The fields of a slice's elements. -/
abbrev SlFk (w : World) (B sz : Nat) (v : Value) {α : Type} (l : List α) (enc : α → Value) : Prop := (∀ i, i < l.length → isPtr (elemAt v sz i)) ∧ (∀ w', Bl B w w' → ∀ i (hi : i < l.length) off, off < sz → rdv none w' (addF (elemAt v sz i) off) = (cellsL (enc l[i]))[off]?)
theorem Sl.fk {B sz : Nat} {v : Value} {α : Type} {l : List α} {enc : α → Value} {w : World} (h : Sl w B (some sz) sz v (l.map enc)) : SlFk w B sz v l enc :=
  ⟨fun i hi => h.ptr (by simpa using hi), fun w' hb i hi off ho => by
    have := (h.bl hb).fld (i := i) (off := off) (by simpa using hi) ho
    simpa using this⟩
abbrev SlFv (w : World) (sz : Nat) (v : Value) {α : Type} (l : List α) (enc : α → Value) : Prop := (∀ i, i < l.length → isPtr (elemAt v sz i)) ∧ (∀ w', Vp v w w' → ∀ i (hi : i < l.length) off, off < sz → rdv none w' (addF (elemAt v sz i) off) = (cellsL (enc l[i]))[off]?)
theorem Sl.fv {B sz : Nat} {v : Value} {α : Type} {l : List α} {enc : α → Value} {w : World} (h : Sl w B (some sz) sz v (l.map enc)) : SlFv w sz v l enc :=
  ⟨fun i hi => h.ptr (by simpa using hi), fun w' hb i hi off ho => by
    have := (h.vp hb).fld (i := i) (off := off) (by simpa using hi) ho
    simpa using this⟩
/-- A slice of the call's own. -/
abbrev SlV (w : World) (B sz : Nat) (k : Option Nat) (v : Value) {α : Type} (l : List α) (enc : α → Value) : Prop := SlWf v ∧ isSl v ∧ lenN v = l.length ∧ v.oneCell' = true ∧ cellsL v = [v] ∧ (∀ w', Vp v w w' → ∀ i (hi : i < l.length), rdv k w' (elemAt v sz i) = some (enc l[i])) ∧ (∀ w', Vp v w w' → Sl w' B k sz v (l.map enc)) ∧ Vp v w w
theorem Sl.v {B sz : Nat} {k : Option Nat} {v : Value} {α : Type} {l : List α} {enc : α → Value} {w : World} (h : Sl w B k sz v (l.map enc)) (hB : B ≤ w.heap.size) : SlV w B sz k v l enc :=
  ⟨h.wf, h.sl, by simpa using h.len, h.one, cellsL_one h.one, fun _ hv i hi => (h.vp hv).at_ i hi, fun _ hv => h.vp hv, fun c hc hl => ⟨Nat.lt_of_lt_of_le (h.lt c hc (by rw [← h.len]; exact hl)) hB, rfl⟩⟩
/-- A slice that reads as a list. -/
abbrev SlK (w : World) (B sz : Nat) (k : Option Nat) (v : Value) {α : Type} (l : List α) (enc : α → Value) : Prop := SlWf v ∧ isSl v ∧ lenN v = l.length ∧ v.oneCell' = true ∧ cellsL v = [v] ∧ (∀ w', Bl B w w' → ∀ i (hi : i < l.length), rdv k w' (elemAt v sz i) = some (enc l[i])) ∧ (∀ w', Bl B w w' → Sl w' B k sz v (l.map enc)) ∧ Bl B w w
theorem Sl.k {B sz : Nat} {k : Option Nat} {v : Value} {α : Type} {l : List α} {enc : α → Value} (h : Sl w B k sz v (l.map enc)) (hB : B ≤ w.heap.size) : SlK w B sz k v l enc :=
  ⟨h.wf, h.sl, by simpa using h.len, h.one, cellsL_one h.one, fun _ hb i hi => (h.bl hb).at_ i hi, fun _ hb => h.bl hb, Bl.refl hB⟩
end
theorem pos0 {n : Nat} (h : 0 < n) : (((n : Int) == 0) = false) ∧ ((((n : Int) = 0) = False)) := by constructor <;> (simp; omega)
theorem any_take {α : Type} {l : List α} {k : Nat} (h : k < l.length) (p : α → Bool) : (l.take (k + 1)).any p = ((l.take k).any p || p l[k]) := by
  rw [List.take_succ_eq_append_getElem h, List.any_append]; simp
theorem all_take {α : Type} {l : List α} {k : Nat} (h : k < l.length) (p : α → Bool) : (l.take (k + 1)).all p = ((l.take k).all p && p l[k]) := by
  rw [List.take_succ_eq_append_getElem h, List.all_append]; simp
theorem all_at {α : Type} {l : List α} {k : Nat} {p : α → Bool} (h : k < l.length) (hp : p l[k] = false) : l.all p = false := by
  rw [List.all_eq_false]; exact ⟨_, List.getElem_mem h, by simp [hp]⟩
theorem any_at {α : Type} {l : List α} {k : Nat} {p : α → Bool} (h : k < l.length) (hp : p l[k] = true) : l.any p = true := List.any_eq_true.2 ⟨_, List.getElem_mem h, hp⟩
theorem take_all' {α : Type} (l : List α) : l.take l.length = l := List.take_of_length_le (Nat.le_refl _)
theorem take_next {α : Type} {a b : List α} {k : Nat} (h : a.take k = b.take k) (ha : k < a.length) (hb : k < b.length) (he : a[k] = b[k]) : a.take (k + 1) = b.take (k + 1) := by
  rw [List.take_succ_eq_append_getElem ha, List.take_succ_eq_append_getElem hb, h, he]
theorem take_full {α : Type} {a b : List α} (h : a.take a.length = b.take a.length) (hl : a.length = b.length) : a = b := by
  rw [take_all' a, hl, take_all' b] at h; exact h
theorem take_all {α : Type} (l : List α) : l.take l.length = l := List.take_of_length_le (Nat.le_refl _)
theorem fork_not {b : Bool} {w : World} {A B : World → Prop} : forkX (!b) w A B = forkX b w B A := by cases b <;> simp [forkX]
theorem guard_undef {b : Bool} {w : World} {A B : World → Prop} : guardV undef b w A B = B w := by simp [guardV, boolOf, undef]
/-- A fork on what is true or not. -/
def forkP (p : Prop) (w : World) (A B : World → Prop) : Prop := (p → A w) ∧ (¬ p → B w)
theorem fork_dec {p : Prop} [Decidable p] {w : World} {A B : World → Prop} : forkX (decide p) w A B = forkP p w A B := by
  by_cases h : p <;> simp [forkX, forkP, h]
theorem forkp {p : Prop} {w : World} {A B : World → Prop} (h1 : p → A w) (h2 : ¬ p → B w) : forkP p w A B := ⟨h1, h2⟩
def forkE (p : Prop) (b : Bool) (w : World) (A B : World → Prop) : Prop := (p → A w) ∧ (b = false → ¬ p → B w)
theorem fork_eq {a b : Int} {w : World} {A B : World → Prop} : forkX (a == b) w A B = forkE (a = b) (a == b) w A B := by
  by_cases h : a = b <;> simp [forkX, forkE, h]
theorem fork_ne {a b : Int} {w : World} {A B : World → Prop} : forkX (a != b) w A B = forkE (a = b) (a == b) w B A := by
  by_cases h : a = b <;> simp [forkX, forkE, h]
theorem forke {p : Prop} {b : Bool} {w : World} {A B : World → Prop} (h1 : p → A w) (h2 : b = false → ¬ p → B w) : forkE p b w A B := ⟨h1, h2⟩
theorem forke_tt {b : Bool} {w : World} {A B : World → Prop} : forkE True b w A B = A w := by simp [forkE]
theorem forke_ff {w : World} {A B : World → Prop} : forkE False false w A B = B w := by simp [forkE]
theorem fork_tt {w : World} {A B : World → Prop} : forkP True w A B = A w := by simp [forkP]
theorem fork_ff {w : World} {A B : World → Prop} : forkP False w A B = B w := by simp [forkP]
theorem eqi_ne {a b : Int} (h : ¬ a = b) : (a == b) = false := by simpa using h
theorem bne_i {a b : Int} {x y : Value} {w : World} {f : Value → World → Prop} : pickX (.bool (a != b)) x y w f = pickX (.bool (!(a == b))) x y w f := rfl
theorem nat0 : ((0 : Nat) : Int) = 0 := rfl
/-- What the end of a round owes. -/
def nextK (N : Nat) (I : Nat → Fr → World → Prop) (w : World) (m : Nat) (g' : Fr) (w' : World) : Prop := ∃ m', m' < m ∧ ∃ k, k + m' = N ∧ I k g' w' ∧ Ext w w'
theorem next_k {N k m : Nat} {I : Nat → Fr → World → Prop} {w w' : World} {g' : Fr} (hk : k + m = N) (hlt : k < N) (hI : I (k + 1) g' w') (hb : Bl w.heap.size w w') : nextK N I w m g' w' := ⟨m - 1, by omega, k + 1, by omega, hI, hb.toExt⟩
/-- A loop over 0 .. N-1 that changes nothing that was there. -/
theorem loop_k {P : Program} {n : Nat} {c : Code} {Q : Exit → Fr → World → Prop} {g : Fr} {w : World} (N : Nat) (I : Fr → Nat → Fr → World → Prop) (hd : dstsOk n c = true) (hN : N ≤ 9223372036854775807) (h0 : I g 0 g w)
    (more : ∀ k m g' w', k + m = N → k < N → Now w' → St w w' → Bl w.heap.size w w → IntKind.i64.wrap ((k : Int) + 1) = ((k + 1 : Nat) : Int) → I g k g' w' → wpx P n c (thenX (nextK N (I g) w m) Q) g' w')
    (last : ∀ g' w', Now w' → St w w' → Bl w.heap.size w w → I g N g' w' → wpx P n c (thenX (nextK N (I g) w 0) Q) g' w') : loopX P n c Q g w := by
  refine loopX_intro (fun m g' w' => ∃ k, k + m = N ∧ I g k g' w' ∧ Ext w w') N hd ⟨0, by omega, h0, Ext.refl w⟩ ?_
  rintro m g' w' ⟨k, hk, hI, hx⟩
  rcases Nat.lt_or_ge k N with hlt | hge
  · exact more k m g' w' hk hlt trivial hx.st (Bl.refl (Nat.le_refl _)) (by rw [wrap_i64_id] <;> omega) hI
  · have : k = N := by omega
    subst this
    obtain rfl : m = 0 := by omega
    exact last g' w' trivial hx.st (Bl.refl (Nat.le_refl _)) hI
def nextB (N : Nat) (I : Nat → Fr → World → Prop) (w : World) (b m : Nat) (g' : Fr) (w' : World) : Prop := ∃ m', m' < m ∧ ∃ k, k + m' = N ∧ I k g' w' ∧ Cg b w w'
theorem next_b {N k m b : Nat} {I : Nat → Fr → World → Prop} {w w' : World} {g' : Fr} (hk : k + m = N) (hlt : k < N) (hI : I (k + 1) g' w') (hb : Cg b w w') : nextB N I w b m g' w' := ⟨m - 1, by omega, k + 1, by omega, hI, hb⟩
/-- A loop over 0 .. N-1 that writes a block of the call's own. -/
theorem loop_b {P : Program} {n : Nat} {c : Code} {Q : Exit → Fr → World → Prop} {g : Fr} {w : World} (b N : Nat) (I : Fr → Nat → Fr → World → Prop) (hd : dstsOk n c = true) (hN : N ≤ 9223372036854775807) (hb : b < w.heap.size) (h0 : I g 0 g w)
    (more : ∀ k m g' w', k + m = N → k < N → Now w' → Sc w w' b → Cg b w w → b < w'.heap.size → IntKind.i64.wrap ((k : Int) + 1) = ((k + 1 : Nat) : Int) → I g k g' w' → wpx P n c (thenX (nextB N (I g) w b m) Q) g' w')
    (last : ∀ g' w', Now w' → Sc w w' b → Cg b w w → b < w'.heap.size → I g N g' w' → wpx P n c (thenX (nextB N (I g) w b 0) Q) g' w') : loopX P n c Q g w := by
  refine loopX_intro (fun m g' w' => ∃ k, k + m = N ∧ I g k g' w' ∧ Chg w w' b) N hd ⟨0, by omega, h0, Chg.refl' w b⟩ ?_
  rintro m g' w' ⟨k, hk, hI, hx⟩
  have hc0 : Cg b w w := Chg.refl' w b
  rcases Nat.lt_or_ge k N with hlt | hge
  · exact more k m g' w' hk hlt trivial hx.sc hc0 (Nat.lt_of_lt_of_le hb hx.size) (by rw [wrap_i64_id] <;> omega) hI
  · have : k = N := by omega
    subst this
    obtain rfl : m = 0 := by omega
    exact last g' w' trivial hx.sc hc0 (Nat.lt_of_lt_of_le hb hx.size) hI
theorem mk_one_k {e by_ n : Nat} {z : Value} {w : World} {f : Value → World → Prop} (hz : z.oneCell' = true) (hb : by_ ≤ 64) (hn : n ≤ 1000000) (h : ∀ b w', Now w' → Bk w' b e (List.replicate n z) → St w w' → Nw w b → f (.slice (some ⟨b, 0, none⟩) n n) w') :
    mkslX (some (e, 1, by_)) (some z) (.int .i64 n) (.int .i64 n) w f := by
  have h1 : cellsL z = [z] := cellsL_one hz
  have hm : (by_ : Int) * n ≤ 64000000 := by
    have h2 : by_ * n ≤ 64 * 1000000 := Nat.mul_le_mul hb hn
    have h3 : ((by_ * n : Nat) : Int) ≤ 64000000 := by omega
    rw [Int.natCast_mul] at h3
    exact h3
  refine need ⟨by omega, by omega, by omega, by omega, by rw [h1]; rfl, by decide⟩ ?_
  simp only [Int.toNat_natCast]
  rw [h1, zrow_one]
  exact h _ _ trivial (Blk.new w _ _).bk (Ext.alloc w _).st (Nw.of (Nat.le_refl _))
theorem rb_get {F : Nat → Bool} {n i : Nat} (h : i < n) : ((List.range n).map fun x => Value.bool (F x))[i]? = some (.bool (F i)) := by
  rw [List.getElem?_map, List.getElem?_range h]; rfl
theorem rb_set {F : Nat → Bool} {n i : Nat} : ((List.range n).map fun x => Value.bool (F x)).set i (.bool true) = (List.range n).map fun x => Value.bool (F x || x == i) := by
  apply List.ext_getElem
  · simp
  · intro j h1 h2
    simp only [List.length_map, List.length_range] at h2
    rw [List.getElem_set]
    simp only [List.getElem_map, List.getElem_range]
    by_cases e : i = j
    · subst e; simp
    · rw [if_neg e]
      have : (j == i) = false := by simp; omega
      rw [this, Bool.or_false]
/-- The block of a value, if it has one, lies below B. -/
def Lt (v : Value) (B : Nat) : Prop := ∀ b, blockOf v = some b → b < B
/-- Behind an append to a row of the call's own, at B or above. -/
abbrev Sa (B : Nat) (w w' : World) : Prop := (∀ b a, Kp b a w → b < B → Kp b a w') ∧ (∀ B' a, Bl B' a w → B' ≤ B → Bl B' a w') ∧ (∀ a, Ext a w → a.heap.size ≤ B → Ext a w') ∧ (∀ b, b < w.heap.size → b < w'.heap.size) ∧ (∀ B', B' ≤ w.heap.size → B' ≤ w'.heap.size) ∧ (∀ b2 a, Cg b2 a w → a.heap.size ≤ B → Cg b2 a w') ∧ (∀ v a, Bp v a w → Lt v B → Bp v a w')
theorem sa_of {B : Nat} {w w' : World} (h : Below B w w') : Sa B w w' := ⟨fun b a k hb => ⟨k.1, (h.block b hb).trans k.2⟩, fun B' a k hB => ⟨k.1, k.2.trans (h.mono hB)⟩, fun a k hB => k.trans' (h.mono hB), fun _ k => Nat.lt_of_lt_of_le k h.size, fun _ k => Nat.le_trans k h.size, fun b2 a k hB => ⟨h.os.trans k.os, h.tape.trans k.tape, h.output.trans k.output, Nat.le_trans k.size h.size, fun i hi hne => (h.block i (Nat.lt_of_lt_of_le hi hB)).trans (k.block i hi hne)⟩, fun v a k hl c hc => ⟨(k c hc).1, (h.block c (hl c hc)).trans (k c hc).2⟩⟩
theorem append_k {α : Type} {w : World} {B b cp e sz by_ t : Nat} {s z : Value} {c : α → List Value} {l : List α} (x : α) {k : Value → World → Prop} (hsl : slOf Try.prog t = some (e, sz, by_)) (hz : zeroElt Try.prog t = some z) (hzs : (cellsL z).length = sz) (hsz : 0 < sz) (hby : by_ ≤ 64)
    (hown : Own w B e sz s (l.map c)) (hb : Blk w b e (c x)) (hl : (c x).length = sz) (h1 : ∀ v ∈ c x, v.oneCell' = true) (hbound : l.length < 1000000000000) (hB : B ≤ w.heap.size)
    (h : ∀ v' w', Now w' → Sa B w w' → Own w' B e sz v' ((l ++ [x]).map c) → k v' w') : appX Try.prog t t t s (.slice (some ⟨b, 0, none⟩) 1 cp) w k := by
  refine append_row (e := e) (sz := sz) (by_ := by_) (z := z) (ns := [c x]) hsl hz hzs hsz hown (by simpa using hb) (by simpa using hl) (by simpa using h1) rfl ?_ hB fun v' w' ho hg hbl hd => ?_
  · simp only [List.length_map, List.length_cons, List.length_nil, Nat.zero_add]
    have : (l.length + 1) * (by_ + 1) ≤ 1000000000000 * 65 := Nat.mul_le_mul (by omega) (by omega)
    omega
  · exact h v' w' trivial (sa_of hbl) (by simpa using ho)
def intC (n : Int) : List Value := [intV n]
/-- A loop over 0 .. N-1; what holds may name the world at its beginning. -/
theorem loop_o {P : Program} {n : Nat} {c : Code} {Q : Exit → Fr → World → Prop} {g : Fr} {w : World} (N : Nat) (I : World → Fr → Nat → Fr → World → Prop) (hd : dstsOk n c = true) (hN : N ≤ 9223372036854775807) (h0 : I w g 0 g w)
    (more : ∀ k m g' w', k + m = N → k < N → Now w' → St w w' → Bl w.heap.size w w → IntKind.i64.wrap ((k : Int) + 1) = ((k + 1 : Nat) : Int) → I w g k g' w' → wpx P n c (thenX (nextK N (I w g) w m) Q) g' w')
    (last : ∀ g' w', Now w' → St w w' → Bl w.heap.size w w → I w g N g' w' → wpx P n c (thenX (nextK N (I w g) w 0) Q) g' w') : loopX P n c Q g w := loop_k N (I w) hd hN h0 more last
end Go.Proofs.Ytbfmabkdggllhaa
