/- What came in, read as data: opened into the layers' own words. -/
import Derived.Test.YtgickfllblmhpaaDoorAuto
import Derived.Test.YtgickfllblmhpaaDoorDom
import Derived.Deep.Slices
import Derived.Deep.Fields
import Derived.ChangeSame
namespace Go.Proofs.YtgickfllblmhpaaDoor
set_option linter.unusedSimpArgs false
set_option linter.unusedVariables false
open Go Go.RowKit Go.ChangeShapes Go.WideShapes Go.Deep
set_option maxRecDepth 100000
set_option linter.unusedSectionVars false
theorem list_of {α : Type} {p : Nat → α → Prop} : ∀ (n : Nat), (∀ i, i < n → ∃ a, p i a) → ∃ l : List α, l.length = n ∧ ∀ i (h : i < l.length), p i l[i]
  | 0, _ => ⟨[], rfl, fun i h => absurd h (by simp)⟩
  | n + 1, h => by
    obtain ⟨l, hl, hp⟩ := list_of n fun i hi => h i (by omega)
    obtain ⟨a, ha⟩ := h n (by omega)
    refine ⟨l ++ [a], by simp [hl], fun i hi => ?_⟩
    by_cases hlt : i < l.length
    · rw [List.getElem_append_left hlt]; exact hp i hlt
    · have : i = l.length := by simp at hi; omega
      subst this
      rw [List.getElem_append_right (Nat.le_refl _)]
      simpa [hl] using ha
theorem rdN_of {w : World} {a : Addr} : ∀ (cs : List Value) (i : Nat), (∀ j, j < cs.length → w.cell? (a.add (i + j)) = cs[j]?) → rdN w a i cs.length = some cs
  | [], _, _ => rfl
  | c :: cs, i, h => by
    have h0 := h 0 (by simp)
    have hr := rdN_of cs (i + 1) fun j hj => by
      have := h (j + 1) (by simpa using hj)
      rw [show i + (j + 1) = i + 1 + j by omega] at this
      simpa using this
    simp only [Nat.add_zero, List.getElem?_cons_zero] at h0
    simp only [List.length_cons, rdN, h0, hr]
theorem block_lt {w : World} {a : Addr} {v : Value} (h : w.cell? a = some v) : a.block < w.heap.size := by
  rcases Nat.lt_or_ge a.block w.heap.size with h1 | h1
  · exact h1
  · have : w.heap[a.block]? = none := Array.getElem?_eq_none h1
    simp [World.cell?, this] at h
section
variable {H : Type} {enc : TypeId × Value → H} {w : World} {base : Nat} {spare : Nat → Bool} {held : Bool}
/-- Cells of a type read as data of a kind. -/
def Dec (enc : TypeId × Value → H) (w : World) (base : Nat) (spare : Nat → Bool) (held : Bool) (t : TypeId) {α : Type} (f : α → List Value) (Φ : α → Prop) : Prop :=
  ∀ fuel cs x, DataW.trod enc Tryd.prog w base spare held fuel t cs = some x → ∃ a, cs = f a ∧ Φ a
theorem dec_int {t : TypeId} (ht : Tryd.prog.underlying t = some (.int .i64)) : Dec enc w base spare held t (fun n : Int => [intV n]) fun n => -9223372036854775808 ≤ n ∧ n ≤ 9223372036854775807 := by
  intro fuel cs x h
  obtain ⟨n, rfl, _, hw⟩ := DataW.trod_int ht h
  refine ⟨n, rfl, ?_⟩
  simp [Lit.wf, IntKind.min, IntKind.max, IntKind.signed, IntKind.bits] at hw
  omega
theorem dec_u8 {t : TypeId} (ht : Tryd.prog.underlying t = some (.int .u8)) : Dec enc w base spare held t (fun n : Int => [.int .u8 n]) fun n => 0 ≤ n ∧ n ≤ 255 := by
  intro fuel cs x h
  obtain ⟨n, rfl, _, hw⟩ := DataW.trod_int ht h
  refine ⟨n, rfl, ?_⟩
  simp [Lit.wf, IntKind.min, IntKind.max, IntKind.signed, IntKind.bits] at hw
  omega
theorem dec_bool {t : TypeId} (ht : Tryd.prog.underlying t = some .bool) : Dec enc w base spare held t (fun b : Bool => [.bool b]) fun _ => True := by
  intro fuel cs x h
  obtain ⟨b, rfl, _⟩ := DataW.trod_bool ht h
  exact ⟨b, rfl, trivial⟩
/-- A slice: what it reads as. -/
theorem open_sl {t e k : TypeId} {α : Type} {f : α → List Value} {Φ : α → Prop} (ht : Tryd.prog.underlying t = some (.slice e)) (hC : Tryd.prog.cellsOf e = k) (hk : 0 < k) (hd : Dec enc w base spare held e f Φ) {fuel : Nat} {cs : List Value} {x : DataW H × List MemPlace}
    (h : DataW.trod enc Tryd.prog w base spare held fuel t cs = some x) : ∃ (v : Value) (l : List α), cs = [v] ∧ (SlWf v ∧ lenN v = l.length ∧ lenN v ≤ capN v ∧ capN v ≤ 9223372036854775807 ∧ (∀ b, blockOf v = some b → 0 < l.length → b < w.heap.size)) ∧ (∀ a ∈ l, (f a).length = k ∧ Φ a) ∧
      ∀ i (h : i < l.length), ∃ a : Addr, elemAt v k i = .pointer (some a) ∧ ∀ j, j < k → w.cell? (a.add j) = (f l[i])[j]? := by
  rcases open_slice ht h with ⟨rfl, _⟩ | ⟨a, len, cap, m, n, D, Pl, rfl, hb, hl, hm, hmm, _, hi⟩
  · exact ⟨_, [], rfl, ⟨rfl, rfl, Nat.le_refl _, by simp [capN], fun b hb => by simp [blockOf] at hb⟩, by simp, fun i h => absurd h (by simp)⟩
  · have hlm : len ≤ m := by rw [hmm]; split <;> omega
    rw [hC] at hi
    obtain ⟨l, hl1, hl2⟩ := list_of (p := fun i (c : α) => (f c).length = k ∧ Φ c ∧ ∀ j, j < k → w.cell? ((a.add (i * k)).add j) = (f c)[j]?) len fun i hi' => by
      obtain ⟨cs', h1, h2⟩ := hi i (by omega)
      obtain ⟨c, hc, hΦ⟩ := hd _ _ _ h2
      obtain ⟨_, hcl, hat⟩ := World.cells?_some h1
      subst hc
      exact ⟨c, hcl, hΦ, hat⟩
    refine ⟨_, l, rfl, ⟨trivial, hl1.symm, hl, by simp only [capN]; unfold maxLen at hm; omega, fun b hb' hlen => ?_⟩, fun c hc => ?_, fun i hi' => ⟨_, rfl, (hl2 i hi').2.2⟩⟩
    · simp only [blockOf, Option.some.injEq] at hb'
      subst hb'
      obtain ⟨h1, _, h3⟩ := hl2 0 hlen
      have h4 := h3 0 hk
      rw [List.getElem?_eq_getElem (by rw [h1]; exact hk)] at h4
      have := block_lt h4
      simpa [Addr.add] using this
    · obtain ⟨i, hi', rfl⟩ := List.getElem_of_mem hc
      exact ⟨(hl2 i hi').1, (hl2 i hi').2.1⟩
theorem open_slN {t e k : TypeId} {α : Type} {f : α → List Value} {g : α → Value} {Φ : α → Prop} (ht : Tryd.prog.underlying t = some (.slice e)) (hC : Tryd.prog.cellsOf e = k) (hk : 0 < k) (hd : Dec enc w base spare held e f Φ) (hg : ∀ a, g a = .agg (f a).toArray) {fuel : Nat} {cs : List Value} {x : DataW H × List MemPlace}
    (h : DataW.trod enc Tryd.prog w base spare held fuel t cs = some x) : ∃ (v : Value) (l : List α), cs = [v] ∧ Sl w w.heap.size (some k) k v (l.map g) ∧ ∀ a ∈ l, Φ a := by
  obtain ⟨v, l, hcs, ⟨h1, h2, h3, h4, h5⟩, h6, h7⟩ := open_sl ht hC hk hd h
  refine ⟨v, l, hcs, ⟨h1, by simpa using h2, h3, by omega, fun b hb hl => h5 b hb (by simpa using hl), fun i hi => ?_⟩, fun a ha => (h6 a ha).2⟩
  simp only [List.length_map] at hi
  obtain ⟨a, ha, hc⟩ := h7 i hi
  have hlen : (f l[i]).length = k := (h6 _ (List.getElem_mem hi)).1
  have := rdN_of (w := w) (a := a) (f l[i]) 0 (fun j hj => by rw [Nat.zero_add]; exact hc j (by rw [hlen] at hj; exact hj))
  rw [hlen] at this
  simp only [ha, rdv, rd, this, List.getElem_map, hg, Option.map_some]
theorem open_sl1 {t e : TypeId} {α : Type} {f : α → Value} {Φ : α → Prop} (ht : Tryd.prog.underlying t = some (.slice e)) (hC : Tryd.prog.cellsOf e = 1) (hd : Dec enc w base spare held e (fun a => [f a]) Φ) {fuel : Nat} {cs : List Value} {x : DataW H × List MemPlace}
    (h : DataW.trod enc Tryd.prog w base spare held fuel t cs = some x) : ∃ (v : Value) (l : List α), cs = [v] ∧ Sl w w.heap.size none 1 v (l.map f) ∧ ∀ a ∈ l, Φ a := by
  obtain ⟨v, l, hcs, ⟨h1, h2, h3, h4, h5⟩, h6, h7⟩ := open_sl ht hC (by decide) hd h
  refine ⟨v, l, hcs, ⟨h1, by simpa using h2, h3, by omega, fun b hb hl => h5 b hb (by simpa using hl), fun i hi => ?_⟩, fun a ha => (h6 a ha).2⟩
  simp only [List.length_map] at hi
  obtain ⟨a, ha, hc⟩ := h7 i hi
  have := hc 0 (by decide)
  simp only [ha, rdv, rd, List.getElem_map]
  simpa [Addr.add] using this
/-- A struct's fields, cell by cell. -/
theorem open_fields {t : TypeId} {fs : Array Field} {fuel : Nat} {cs : List Value} {x : DataW H × List MemPlace} (ht : Tryd.prog.underlying t = some (.struct fs)) (hC : Tryd.prog.cellsOf t = fs.size) (hone : oneCellFields Tryd.prog fs = true)
    (h : DataW.trod enc Tryd.prog w base spare held fuel t cs = some x) : cs.length = fs.size ∧ ∃ n, ∀ (j : Nat) (f : Field), fs[j]? = some f → ∃ v y, cs[j]? = some v ∧ DataW.trod enc Tryd.prog w base spare held n f.type [v] = some y := by
  obtain ⟨ys, n, _, _, hlen, hyl, hf⟩ := DataW.trod_struct ht h
  refine ⟨hlen.trans hC, n, fun j f hj => ?_⟩
  obtain ⟨ho, hk⟩ := hone_of hone j f hj
  have hjl : j < fs.size := (Array.getElem?_eq_some_iff.1 hj).1
  have h1 := hf j f hj
  rw [ho, hk] at h1
  have hjc : j < cs.length := by omega
  have h2 : (cs.drop j).take 1 = [cs[j]] := by rw [List.drop_eq_getElem_cons hjc]; rfl
  rw [h2] at h1
  exact ⟨_, _, List.getElem?_eq_getElem hjc, h1.trans (List.getElem?_eq_getElem (by omega))⟩
end
theorem len1 {α : Type} {l : List α} {a : α} (h : l.length = 1) (h0 : l[0]? = some a) : l = [a] := by
  match l, h with
  | [x], _ => simp at h0; rw [h0]
theorem len2 {α : Type} {l : List α} {a b : α} (h : l.length = 2) (h0 : l[0]? = some a) (h1 : l[1]? = some b) : l = [a, b] := by
  match l, h with
  | [x, y], _ => simp at h0 h1; rw [h0, h1]
theorem len3 {α : Type} {l : List α} {a b c : α} (h : l.length = 3) (h0 : l[0]? = some a) (h1 : l[1]? = some b) (h2 : l[2]? = some c) : l = [a, b, c] := by
  match l, h with
  | [x, y, z], _ => simp at h0 h1 h2; rw [h0, h1, h2]
theorem len4 {α : Type} {l : List α} {a b c d : α} (h : l.length = 4) (h0 : l[0]? = some a) (h1 : l[1]? = some b) (h2 : l[2]? = some c) (h3 : l[3]? = some d) : l = [a, b, c, d] := by
  match l, h with
  | [x, y, z, u], _ => simp at h0 h1 h2 h3; rw [h0, h1, h2, h3]
theorem len7 {α : Type} {l : List α} {a b c d e f g : α} (h : l.length = 7) (h0 : l[0]? = some a) (h1 : l[1]? = some b) (h2 : l[2]? = some c) (h3 : l[3]? = some d) (h4 : l[4]? = some e) (h5 : l[5]? = some f) (h6 : l[6]? = some g) : l = [a, b, c, d, e, f, g] := by
  match l, h with
  | [x0, x1, x2, x3, x4, x5, x6], _ => simp at h0 h1 h2 h3 h4 h5 h6; rw [h0, h1, h2, h3, h4, h5, h6]
theorem len8 {α : Type} {l : List α} {a b c d e f g i : α} (h : l.length = 8) (h0 : l[0]? = some a) (h1 : l[1]? = some b) (h2 : l[2]? = some c) (h3 : l[3]? = some d) (h4 : l[4]? = some e) (h5 : l[5]? = some f) (h6 : l[6]? = some g) (h7 : l[7]? = some i) : l = [a, b, c, d, e, f, g, i] := by
  match l, h with
  | [x0, x1, x2, x3, x4, x5, x6, x7], _ => simp at h0 h1 h2 h3 h4 h5 h6 h7; rw [h0, h1, h2, h3, h4, h5, h6, h7]
end Go.Proofs.YtgickfllblmhpaaDoor
