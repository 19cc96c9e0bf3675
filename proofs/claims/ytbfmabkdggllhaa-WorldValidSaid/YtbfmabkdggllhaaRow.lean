/- Whole slices appended and copied; rows of the call's own of every element size. -/
import Derived.Test.YtbfmabkdggllhaaAuto
namespace Go.Proofs.Ytbfmabkdggllhaa
set_option linter.unusedSimpArgs false
set_option linter.unusedVariables false
open Go Go.RowKit
set_option maxRecDepth 100000
set_option linter.unusedSectionVars false
set_option maxHeartbeats 1000000
theorem rdN_get {w : World} {a : Addr} : ∀ {n o : Nat} {xs : List Value}, rdN w a o n = some xs → ∀ j, j < n → w.cell? (a.add (o + j)) = xs[j]?
  | 0, _, _, _, _, h => absurd h (by omega)
  | n + 1, o, xs, he, j, hj => by
    unfold rdN at he
    split at he
    · rename_i v l h1 h2
      injection he with he
      subst he
      cases j with
      | zero => simpa using h1
      | succ j => have := rdN_get h2 j (by omega); rw [show o + 1 + j = o + (j + 1) by omega] at this; simpa using this
    · cases he
theorem flat_len {k : Nat} : ∀ (l : List (List Value)), (∀ c ∈ l, c.length = k) → l.flatten.length = l.length * k
  | [], _ => by simp
  | a :: r, h => by rw [List.flatten_cons, List.length_append, flat_len r (fun c hc => h c (List.mem_cons_of_mem _ hc)), h a (List.mem_cons_self ..), List.length_cons, Nat.succ_mul]; omega
/-- What a slice of structs reads, cell by cell. -/
theorem sl_cells {α : Type} {w : World} {B sz n c : Nat} {a : Addr} {l : List α} {f : α → List Value} (h : Sl w B (some sz) sz (.slice (some a) n c) (l.map fun x => .agg (f x).toArray)) (hf : ∀ x, (f x).length = sz) (hsz : 0 < sz) :
    ∀ j u, (l.map f).flatten[j]? = some u → w.cell? (a.add j) = some u := by
  intro j u hj
  have hall : ∀ c ∈ l.map f, c.length = sz := by
    intro c hc
    obtain ⟨x, _, rfl⟩ := List.mem_map.1 hc
    exact hf x
  have hlt : j < l.length * sz := by
    obtain ⟨h1, _⟩ := List.getElem?_eq_some_iff.1 hj
    rw [flat_len _ hall, List.length_map] at h1
    exact h1
  have hi : j / sz < l.length := Nat.div_lt_of_lt_mul (by rw [Nat.mul_comm]; exact hlt)
  have hr : j % sz < sz := Nat.mod_lt _ hsz
  have e : j / sz * sz + j % sz = j := by rw [Nat.mul_comm]; exact Nat.div_add_mod j sz
  have h1 := flatten_get (l.map f) (j / sz) (by simpa using hi) hall (j % sz) hr
  rw [e, hj] at h1
  have h2 := h.rd (j / sz) (by simpa using hi)
  simp only [elemAt, rdv, rd, List.getElem_map, Option.map_eq_some_iff] at h2
  obtain ⟨xs, h3, h4⟩ := h2
  injection h4 with h4
  have h5 : xs = f l[j / sz] := by simpa using congrArg Array.toList h4
  subst h5
  have h6 := rdN_get h3 (j % sz) hr
  rw [Nat.zero_add, Addr.add_add, e] at h6
  rw [h6]
  simpa using h1.symm
section
variable {w : World} {B b cp e sz by_ t ty : Nat} {s z : Value}
theorem Own.ofBlk {b : Nat} {cs : List (List Value)} (h : Blk w b e cs.flatten) (hc : ∀ c ∈ cs, c.length = sz) (hB : B ≤ b) (hs : cs.length ≤ 140737488355328) : Own w B e sz (.slice (some ⟨b, 0, none⟩) cs.length cs.length) cs :=
  ⟨⟨flat_len _ hc, .inr ⟨b, cs.length, _, rfl, hB, h, Nat.le_refl _, Nat.le_trans hs (by decide), by simpa using flat_len _ hc, by rw [← flat_len _ hc, List.toList_toArray]; exact take_all _⟩⟩, hc, hs⟩
/-- append of a whole slice, to a row of the call's own. -/
theorem appendAll_k {α : Type} {B' : Nat} {v : Value} {c : α → List Value} {l r : List α} {k : Value → World → Prop} (hsl : slOf Try.prog t = some (e, sz, by_)) (hz : zeroElt Try.prog t = some z) (hzs : (cellsL z).length = sz) (hsz : 0 < sz) (hby : by_ ≤ 64)
    (hown : Own w B e sz s (l.map c)) (hv : Sl w B' (some sz) sz v (r.map fun x => .agg (c x).toArray)) (hl : ∀ x, (c x).length = sz) (h1 : ∀ x, ∀ v ∈ c x, v.oneCell' = true) (hbound : l.length + r.length < 1000000000000) (hB : B ≤ w.heap.size)
    (h : ∀ v' w', Now w' → Sa B w w' → Own w' B e sz v' ((l ++ r).map c) → k v' w') : appX Try.prog t t ty s v w k := by
  obtain ⟨i, hu, hi, hs, hby'⟩ := slOf_parts hsl
  have hz' : i.zero = some z := by
    unfold zeroElt at hz
    rw [hsl] at hz
    simpa [zeroOf, hi] using hz
  have hcells : z.cells.size = sz := by rw [← hzs, ← cellsL_eq]; simp
  have hall : ∀ x ∈ r.map c, x.length = sz := by
    intro x hx
    obtain ⟨y, _, rfl⟩ := List.mem_map.1 hx
    exact hl y
  have hlen : lenN v = r.length := by simpa using hv.len
  have hb : (l.length + r.length) * by_ ≤ 1000000000000 * 64 := Nat.mul_le_mul (by omega) hby
  have hwf := hv.wf
  match v, hv, hlen, hwf with
  | .slice (some a) m cc, hv, hlen, _ =>
    obtain rfl : m = r.length := hlen
    obtain ⟨v', w', hr, h2, h3, _, h5⟩ := run_append_own_at (P := Try.prog) w B t ty e i z sz by_ hu hi hz' hs hby' hcells hsz s (l.map c).length (l.map c).flatten hown.1 a r.length cc (r.map c).flatten (by rw [flat_len _ hall, List.length_map])
      (sl_cells hv hl hsz) (fun u hu => by obtain ⟨x, hx, hux⟩ := List.mem_flatten.1 hu; obtain ⟨y, _, rfl⟩ := List.mem_map.1 hx; exact h1 y u hux) (by simp only [maxLen, List.length_map]; omega) (by rw [List.length_map]; omega) hB
    refine runsV_ok hr (h v' w' trivial (sa_of (grown_below h3 (fun k hk => (hown.lt k hk).1) hB)) ⟨by simpa using h2, fun x hx => ?_, by simp only [List.length_map, List.length_append]; omega⟩)
    obtain ⟨y, _, rfl⟩ := List.mem_map.1 hx
    exact hl y
  | .slice none m cc, hv, hlen, hwf =>
    obtain rfl : m = 0 := hwf
    have hr0 : r = [] := List.eq_nil_of_length_eq_zero hlen.symm
    subst hr0
    have hr : (Builtin.append_ #[t, t] ty #[s, .slice none 0 cc]).run Try.prog w = .ok s w := by
      rcases hown.1.2 with ⟨rfl, _⟩ | ⟨g, cap, cur, rfl, _, _, hnc, _⟩
      · simp [Builtin.append_, run_underlying hu, sizeOf, typeInfo, hi, Builtin.lenOf, Builtin.firstCells]
      · rw [List.length_map] at hnc
        simp [Builtin.append_, run_underlying hu, sizeOf, typeInfo, hi, Builtin.lenOf, Builtin.firstCells, hnc, storeCells]
    exact runsV_ok hr (h s w trivial ⟨fun _ _ k _ => k, fun _ _ k _ => k, fun _ k _ => k, fun _ k => k, fun _ k => k, fun _ _ k _ => k, fun _ _ k _ => k⟩ (by simpa using hown))
/-- What the simplifier knows of a row of the call's own. -/
abbrev OwnK (w : World) (B e sz : Nat) (v : Value) (cs : List (List Value)) : Prop := (∀ w', Bp v w w' → Own w' B e sz v cs) ∧ Bp v w w ∧ (∀ b, b < B → ¬ blockOf v = some b) ∧ v.oneCell' = true ∧ cellsL v = [v] ∧ isSl v ∧ (∀ b, w.heap.size ≤ b → ¬ blockOf v = some b) ∧ (∀ B', w.heap.size ≤ B' → Lt v B')
theorem Own.o {v : Value} {cs : List (List Value)} (h : Own w B e sz v cs) : OwnK w B e sz v cs := by
  refine ⟨fun w' k => h.keep fun b hb => (k b (by rw [h.block]; exact hb)).2, fun b hb => ⟨(h.lt b (by rw [← h.block]; exact hb)).2, rfl⟩, fun b hb => h.far hb, h.one, cellsL_one h.one, ?_, fun b hb he => ?_, fun B' hB b hb => ?_⟩
  · rcases h.1.2 with ⟨rfl, _⟩ | ⟨g, cap, cur, rfl, _⟩ <;> trivial
  · have := (h.lt b (by rw [← h.block]; exact he)).2
    omega
  · have := (h.lt b (by rw [← h.block]; exact hb)).2
    omega
/-- append of a whole slice to a row that is new: all that was there is kept. -/
theorem appendNew_k {α : Type} {B' : Nat} {v : Value} {c : α → List Value} {r : List α} {k : Value → World → Prop} (hown : Own w w.heap.size e sz s []) (hsl : slOf Try.prog t = some (e, sz, by_)) (hz : zeroElt Try.prog t = some z) (hzs : (cellsL z).length = sz) (hsz : 0 < sz) (hby : by_ ≤ 64)
    (hv : Sl w B' (some sz) sz v (r.map fun x => .agg (c x).toArray)) (hl : ∀ x, (c x).length = sz) (h1 : ∀ x, ∀ v ∈ c x, v.oneCell' = true) (hbound : r.length < 1000000000000)
    (h : ∀ v' w', Now w' → St w w' → Own w' w.heap.size e sz v' (r.map c) → k v' w') : appX Try.prog t t ty s v w k := by
  obtain ⟨i, hu, hi, hs, hby'⟩ := slOf_parts hsl
  have hz' : i.zero = some z := by
    unfold zeroElt at hz
    rw [hsl] at hz
    simpa [zeroOf, hi] using hz
  have hcells : z.cells.size = sz := by rw [← hzs, ← cellsL_eq]; simp
  have hall : ∀ x ∈ r.map c, x.length = sz := by
    intro x hx
    obtain ⟨y, _, rfl⟩ := List.mem_map.1 hx
    exact hl y
  have hlen : lenN v = r.length := by simpa using hv.len
  have hb : (0 + r.length) * by_ ≤ 1000000000000 * 64 := Nat.mul_le_mul (by omega) hby
  have hwf := hv.wf
  match v, hv, hlen, hwf with
  | .slice (some a) m cc, hv, hlen, _ =>
    obtain rfl : m = r.length := hlen
    obtain ⟨v', w', hr, h2, h3, _, h5⟩ := run_append_own_at (P := Try.prog) w w.heap.size t ty e i z sz by_ hu hi hz' hs hby' hcells hsz s 0 [] hown.1 a r.length cc (r.map c).flatten (by rw [flat_len _ hall, List.length_map])
      (sl_cells hv hl hsz) (fun u hu => by obtain ⟨x, hx, hux⟩ := List.mem_flatten.1 hu; obtain ⟨y, _, rfl⟩ := List.mem_map.1 hx; exact h1 y u hux) (by simp only [maxLen]; omega) (by omega) (Nat.le_refl _)
    have hx : Ext w w' := grown_below h3 (fun k hk => (hown.lt k hk).1) (Nat.le_refl _)
    refine runsV_ok hr (h v' w' trivial hx.st ⟨by simpa using h2, fun x hx => ?_, by simp only [List.length_map]; omega⟩)
    obtain ⟨y, _, rfl⟩ := List.mem_map.1 hx
    exact hl y
  | .slice none m cc, hv, hlen, hwf =>
    obtain rfl : m = 0 := hwf
    have hr0 : r = [] := List.eq_nil_of_length_eq_zero hlen.symm
    subst hr0
    have hr : (Builtin.append_ #[t, t] ty #[s, .slice none 0 cc]).run Try.prog w = .ok s w := by
      rcases hown.1.2 with ⟨rfl, _⟩ | ⟨g, cap, cur, rfl, _, _, hnc, _⟩
      · simp [Builtin.append_, run_underlying hu, sizeOf, typeInfo, hi, Builtin.lenOf, Builtin.firstCells]
      · simp at hnc
        simp [Builtin.append_, run_underlying hu, sizeOf, typeInfo, hi, Builtin.lenOf, Builtin.firstCells, hnc, storeCells]
    exact runsV_ok hr (h s w trivial (Ext.refl w).st (by simpa using hown))
end
end Go.Proofs.Ytbfmabkdggllhaa
