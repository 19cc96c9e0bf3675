/- Whole slices appended and copied; rows of the call's own of every element size. -/
import Derived.Test.YtopfddchckdhgaaGreatAuto
namespace Go.Proofs.YtopfddchckdhgaaGreat
set_option linter.unusedSimpArgs false
set_option linter.unusedVariables false
open Go Go.RowKit
set_option maxRecDepth 100000
set_option linter.unusedSectionVars false
set_option maxHeartbeats 1000000
theorem rdN_get {w : World} {a : Addr} : ∀ {n o : Nat} {xs : List Value}, rdN w a o n = some xs → ∀ j, j < n → w.cell? (a.add (o + j)) = xs[j]?
  | 0, _, _, _, _, h => absurd h (by omega)
  | n + 1, o, xs, he, j, hj => by
    unfold rdN at he
    split at he
    · rename_i v l h1 h2
      injection he with he
      subst he
      cases j with
      | zero => simpa using h1
      | succ j => have := rdN_get h2 j (by omega); rw [show o + 1 + j = o + (j + 1) by omega] at this; simpa using this
    · cases he
theorem flat_len {k : Nat} : ∀ (l : List (List Value)), (∀ c ∈ l, c.length = k) → l.flatten.length = l.length * k
  | [], _ => by simp
  | a :: r, h => by rw [List.flatten_cons, List.length_append, flat_len r (fun c hc => h c (List.mem_cons_of_mem _ hc)), h a (List.mem_cons_self ..), List.length_cons, Nat.succ_mul]; omega
/-- What a slice of structs reads, cell by cell. -/
theorem sl_cells {α : Type} {w : World} {B sz n c : Nat} {a : Addr} {l : List α} {f : α → List Value} (h : Sl w B (some sz) sz (.slice (some a) n c) (l.map fun x => .agg (f x).toArray)) (hf : ∀ x, (f x).length = sz) (hsz : 0 < sz) :
    ∀ j u, (l.map f).flatten[j]? = some u → w.cell? (a.add j) = some u := by
  intro j u hj
  have hall : ∀ c ∈ l.map f, c.length = sz := by
    intro c hc
    obtain ⟨x, _, rfl⟩ := List.mem_map.1 hc
    exact hf x
  have hlt : j < l.length * sz := by
    obtain ⟨h1, _⟩ := List.getElem?_eq_some_iff.1 hj
    rw [flat_len _ hall, List.length_map] at h1
    exact h1
  have hi : j / sz < l.length := Nat.div_lt_of_lt_mul (by rw [Nat.mul_comm]; exact hlt)
  have hr : j % sz < sz := Nat.mod_lt _ hsz
  have e : j / sz * sz + j % sz = j := by rw [Nat.mul_comm]; exact Nat.div_add_mod j sz
  have h1 := flatten_get (l.map f) (j / sz) (by simpa using hi) hall (j % sz) hr
  rw [e, hj] at h1
  have h2 := h.rd (j / sz) (by simpa using hi)
  simp only [elemAt, rdv, rd, List.getElem_map, Option.map_eq_some_iff] at h2
  obtain ⟨xs, h3, h4⟩ := h2
  injection h4 with h4
  have h5 : xs = f l[j / sz] := by simpa using congrArg Array.toList h4
  subst h5
  have h6 := rdN_get h3 (j % sz) hr
  rw [Nat.zero_add, Addr.add_add, e] at h6
  rw [h6]
  simpa using h1.symm
section
variable {w : World} {B b cp e sz by_ t ty : Nat} {s z : Value}
theorem Own.ofBlk {b : Nat} {cs : List (List Value)} (h : Blk w b e cs.flatten) (hc : ∀ c ∈ cs, c.length = sz) (hB : B ≤ b) (hs : cs.length ≤ 140737488355328) : Own w B e sz (.slice (some ⟨b, 0, none⟩) cs.length cs.length) cs :=
  ⟨⟨flat_len _ hc, .inr ⟨b, cs.length, _, rfl, hB, h, Nat.le_refl _, Nat.le_trans hs (by decide), by simpa using flat_len _ hc, by rw [← flat_len _ hc, List.toList_toArray]; exact take_all _⟩⟩, hc, hs⟩
/-- append of a whole slice, to a row of the call's own. -/
theorem appendAll_k {α : Type} {B' : Nat} {v : Value} {c : α → List Value} {l r : List α} {k : Value → World → Prop} (hsl : slOf Tryz.prog t = some (e, sz, by_)) (hz : zeroElt Tryz.prog t = some z) (hzs : (cellsL z).length = sz) (hsz : 0 < sz) (hby : by_ ≤ 64)
    (hown : Own w B e sz s (l.map c)) (hv : Sl w B' (some sz) sz v (r.map fun x => .agg (c x).toArray)) (hl : ∀ x, (c x).length = sz) (h1 : ∀ x, ∀ v ∈ c x, v.oneCell' = true) (hbound : l.length + r.length < 1000000000000) (hB : B ≤ w.heap.size)
    (h : ∀ v' w', Now w' → Sa B w w' → Own w' B e sz v' ((l ++ r).map c) → k v' w') : appX Tryz.prog t t ty s v w k := by
  obtain ⟨i, hu, hi, hs, hby'⟩ := slOf_parts hsl
  have hz' : i.zero = some z := by
    unfold zeroElt at hz
    rw [hsl] at hz
    simpa [zeroOf, hi] using hz
  have hcells : z.cells.size = sz := by rw [← hzs, ← cellsL_eq]; simp
  have hall : ∀ x ∈ r.map c, x.length = sz := by
    intro x hx
    obtain ⟨y, _, rfl⟩ := List.mem_map.1 hx
    exact hl y
  have hlen : lenN v = r.length := by simpa using hv.len
  have hb : (l.length + r.length) * by_ ≤ 1000000000000 * 64 := Nat.mul_le_mul (by omega) hby
  have hwf := hv.wf
  match v, hv, hlen, hwf with
  | .slice (some a) m cc, hv, hlen, _ =>
    obtain rfl : m = r.length := hlen
    obtain ⟨v', w', hr, h2, h3, _, h5⟩ := run_append_own_at (P := Tryz.prog) w B t ty e i z sz by_ hu hi hz' hs hby' hcells hsz s (l.map c).length (l.map c).flatten hown.1 a r.length cc (r.map c).flatten (by rw [flat_len _ hall, List.length_map])
      (sl_cells hv hl hsz) (fun u hu => by obtain ⟨x, hx, hux⟩ := List.mem_flatten.1 hu; obtain ⟨y, _, rfl⟩ := List.mem_map.1 hx; exact h1 y u hux) (by simp only [maxLen, List.length_map]; omega) (by rw [List.length_map]; omega) hB
    refine runsV_ok hr (h v' w' trivial (sa_of (grown_below h3 (fun k hk => (hown.lt k hk).1) hB)) ⟨by simpa using h2, fun x hx => ?_, by simp only [List.length_map, List.length_append]; omega⟩)
    obtain ⟨y, _, rfl⟩ := List.mem_map.1 hx
    exact hl y
  | .slice none m cc, hv, hlen, hwf =>
    obtain rfl : m = 0 := hwf
    have hr0 : r = [] := List.eq_nil_of_length_eq_zero hlen.symm
    subst hr0
    have hr : (Builtin.append_ #[t, t] ty #[s, .slice none 0 cc]).run Tryz.prog w = .ok s w := by
      rcases hown.1.2 with ⟨rfl, _⟩ | ⟨g, cap, cur, rfl, _, _, hnc, _⟩
      · simp [Builtin.append_, run_underlying hu, sizeOf, typeInfo, hi, Builtin.lenOf, Builtin.firstCells]
      · rw [List.length_map] at hnc
        simp [Builtin.append_, run_underlying hu, sizeOf, typeInfo, hi, Builtin.lenOf, Builtin.firstCells, hnc, storeCells]
    exact runsV_ok hr (h s w trivial ⟨fun _ _ k _ => k, fun _ _ k _ => k, fun _ k _ => k, fun _ k => k, fun _ k => k, fun _ _ k _ => k, fun _ _ k _ => k⟩ (by simpa using hown))
/-- What the simplifier knows of a row of the call's own. -/
abbrev OwnK (w : World) (B e sz : Nat) (v : Value) (cs : List (List Value)) : Prop := (∀ w', Bp v w w' → Own w' B e sz v cs) ∧ Bp v w w ∧ (∀ b, b < B → ¬ blockOf v = some b) ∧ v.oneCell' = true ∧ cellsL v = [v] ∧ isSl v ∧ (∀ b, w.heap.size ≤ b → ¬ blockOf v = some b) ∧ (∀ B', w.heap.size ≤ B' → Lt v B')
theorem Own.o {v : Value} {cs : List (List Value)} (h : Own w B e sz v cs) : OwnK w B e sz v cs := by
  refine ⟨fun w' k => h.keep fun b hb => (k b (by rw [h.block]; exact hb)).2, fun b hb => ⟨(h.lt b (by rw [← h.block]; exact hb)).2, rfl⟩, fun b hb => h.far hb, h.one, cellsL_one h.one, ?_, fun b hb he => ?_, fun B' hB b hb => ?_⟩
  · rcases h.1.2 with ⟨rfl, _⟩ | ⟨g, cap, cur, rfl, _⟩ <;> trivial
  · have := (h.lt b (by rw [← h.block]; exact he)).2
    omega
  · have := (h.lt b (by rw [← h.block]; exact hb)).2
    omega
/-- append of a whole slice to a row that is new: all that was there is kept. -/
theorem appendNew_k {α : Type} {B' : Nat} {v : Value} {c : α → List Value} {r : List α} {k : Value → World → Prop} (hown : Own w w.heap.size e sz s []) (hsl : slOf Tryz.prog t = some (e, sz, by_)) (hz : zeroElt Tryz.prog t = some z) (hzs : (cellsL z).length = sz) (hsz : 0 < sz) (hby : by_ ≤ 64)
    (hv : Sl w B' (some sz) sz v (r.map fun x => .agg (c x).toArray)) (hl : ∀ x, (c x).length = sz) (h1 : ∀ x, ∀ v ∈ c x, v.oneCell' = true) (hbound : r.length < 1000000000000)
    (h : ∀ v' w', Now w' → St w w' → Own w' w.heap.size e sz v' (r.map c) → k v' w') : appX Tryz.prog t t ty s v w k := by
  obtain ⟨i, hu, hi, hs, hby'⟩ := slOf_parts hsl
  have hz' : i.zero = some z := by
    unfold zeroElt at hz
    rw [hsl] at hz
    simpa [zeroOf, hi] using hz
  have hcells : z.cells.size = sz := by rw [← hzs, ← cellsL_eq]; simp
  have hall : ∀ x ∈ r.map c, x.length = sz := by
    intro x hx
    obtain ⟨y, _, rfl⟩ := List.mem_map.1 hx
    exact hl y
  have hlen : lenN v = r.length := by simpa using hv.len
  have hb : (0 + r.length) * by_ ≤ 1000000000000 * 64 := Nat.mul_le_mul (by omega) hby
  have hwf := hv.wf
  match v, hv, hlen, hwf with
  | .slice (some a) m cc, hv, hlen, _ =>
    obtain rfl : m = r.length := hlen
    obtain ⟨v', w', hr, h2, h3, _, h5⟩ := run_append_own_at (P := Tryz.prog) w w.heap.size t ty e i z sz by_ hu hi hz' hs hby' hcells hsz s 0 [] hown.1 a r.length cc (r.map c).flatten (by rw [flat_len _ hall, List.length_map])
      (sl_cells hv hl hsz) (fun u hu => by obtain ⟨x, hx, hux⟩ := List.mem_flatten.1 hu; obtain ⟨y, _, rfl⟩ := List.mem_map.1 hx; exact h1 y u hux) (by simp only [maxLen]; omega) (by omega) (Nat.le_refl _)
    have hx : Ext w w' := grown_below h3 (fun k hk => (hown.lt k hk).1) (Nat.le_refl _)
    refine runsV_ok hr (h v' w' trivial hx.st ⟨by simpa using h2, fun x hx => ?_, by simp only [List.length_map]; omega⟩)
    obtain ⟨y, _, rfl⟩ := List.mem_map.1 hx
    exact hl y
  | .slice none m cc, hv, hlen, hwf =>
    obtain rfl : m = 0 := hwf
    have hr0 : r = [] := List.eq_nil_of_length_eq_zero hlen.symm
    subst hr0
    have hr : (Builtin.append_ #[t, t] ty #[s, .slice none 0 cc]).run Tryz.prog w = .ok s w := by
      rcases hown.1.2 with ⟨rfl, _⟩ | ⟨g, cap, cur, rfl, _, _, hnc, _⟩
      · simp [Builtin.append_, run_underlying hu, sizeOf, typeInfo, hi, Builtin.lenOf, Builtin.firstCells]
      · simp at hnc
        simp [Builtin.append_, run_underlying hu, sizeOf, typeInfo, hi, Builtin.lenOf, Builtin.firstCells, hnc, storeCells]
    exact runsV_ok hr (h s w trivial (Ext.refl w).st (by simpa using hown))
end
end Go.Proofs.YtopfddchckdhgaaGreat
/- Rows that are made at once, and rows that are copied into. -/
namespace Go.Proofs.YtopfddchckdhgaaGreat
set_option linter.unusedSimpArgs false
set_option linter.unusedVariables false
open Go Go.RowKit
set_option maxRecDepth 100000
set_option linter.unusedSectionVars false
set_option maxHeartbeats 1000000
theorem run_copy_rowN {P : Program} (w : World) (dT sT ty elem : TypeId) (g o dLen dCap : Nat) (a : Addr) (sLen sCap sz : Nat) (i : TypeInfo) (cur : Array Value) (t : TypeId) (cs : List Value)
    (hu : P.underlying dT = some (.slice elem)) (hi : P.info? elem = some i) (hs : i.size = sz)
    (hg : w.heap[g]? = some (.cells cur t (0, 0))) (hn : cs.length = Nat.min sLen dLen * sz)
    (hsrc : ∀ j v, cs[j]? = some v → w.cell? (a.add j) = some v) (hfit : o + cs.length ≤ cur.size) (h1 : ∀ v ∈ cs, v.oneCell' = true) :
    (Builtin.copy_ #[dT, sT] ty #[.slice (some ⟨g, o, none⟩) dLen dCap, .slice (some a) sLen sCap]).run P w =
      .ok (goInt (Nat.min sLen dLen)) (w.setRow g (cur.toList.take o ++ cs ++ cur.toList.drop (o + cs.length)).toArray) := by
  have hl := run_loadCells_list (P := P) w a cs hsrc
  have hst := run_storeCells_at P g o t cs 0 cur w hg (by simpa using hfit) h1
  simp [Builtin.copy_, run_underlying hu, Builtin.lenOf, Builtin.firstCells, sizeOf, typeInfo, hi, hs, ← hn, hl, hst]
theorem chg_row (w : World) (g : Nat) (cur : Array Value) : Chg w (w.setRow g cur) g :=
  ⟨rfl, rfl, rfl, by simp [World.setRow], fun k _ hk => setRow_other w g k _ hk⟩
theorem zrow_flat (z : List Value) : ∀ n, zrow z n = (List.replicate n z).flatten
  | 0 => rfl
  | n + 1 => by rw [zrow, zrow_flat z n, List.replicate_succ, List.flatten_cons]
section
variable {w : World} {B b cp e sz by_ t ty : Nat} {s z : Value}
/-- make of a slice of structs. -/
theorem mk_own_k {n : Nat} {f : Value → World → Prop} (hz : (cellsL z).length = sz) (hs : 0 < sz) (hb : by_ ≤ 64) (hn : n ≤ 1000000) (h : ∀ b w', Now w' → Blk w' b e (List.replicate n (cellsL z)).flatten → St w w' → Nw w b → f (.slice (some ⟨b, 0, none⟩) n n) w') :
    mkslX (some (e, sz, by_)) (some z) (.int .i64 n) (.int .i64 n) w f := by
  have hm : (by_ : Int) * n ≤ 64000000 := by
    have h2 : by_ * n ≤ 64 * 1000000 := Nat.mul_le_mul hb hn
    have h3 : ((by_ * n : Nat) : Int) ≤ 64000000 := by omega
    rw [Int.natCast_mul] at h3
    exact h3
  refine need ⟨by omega, by omega, by omega, by omega, hz, hs⟩ ?_
  simp only [Int.toNat_natCast]
  rw [zrow_flat]
  exact h _ _ trivial (Blk.new w _ _) (Ext.alloc w _).st (Nw.of (Nat.le_refl _))
/-- copy of a whole slice into a row of the same length that is known. -/
theorem copyAll_k {α : Type} {B' n m : Nat} {cur : List Value} {v : Value} {c : α → List Value} {r : List α} {k : Value → World → Prop} (hsl : slOf Tryz.prog t = some (e, sz, by_)) (hsz : 0 < sz) (hb : Blk w b e cur) (hc : cur.length = r.length * sz) (hn : n = r.length)
    (hv : Sl w B' (some sz) sz v (r.map fun x => .agg (c x).toArray)) (hl : ∀ x, (c x).length = sz) (h1 : ∀ x, ∀ v ∈ c x, v.oneCell' = true)
    (h : ∀ w', Now w' → Blk w' b e (r.map c).flatten → Sc w w' b → Cg b w w' → k (.int .i64 n) w') : copyX Tryz.prog t t ty (.slice (some ⟨b, 0, none⟩) n m) v w k := by
  subst hn
  obtain ⟨i, hu, hi, hs, hby'⟩ := slOf_parts hsl
  have hall : ∀ x ∈ r.map c, x.length = sz := by
    intro x hx
    obtain ⟨y, _, rfl⟩ := List.mem_map.1 hx
    exact hl y
  have hlen : lenN v = r.length := by simpa using hv.len
  have hfl : (r.map c).flatten.length = r.length * sz := by rw [flat_len _ hall, List.length_map]
  have hwf := hv.wf
  match v, hv, hlen, hwf with
  | .slice (some a) q cc, hv, hlen, _ =>
    obtain rfl : q = r.length := hlen
    have hr := run_copy_rowN (P := Tryz.prog) w t t ty e b 0 r.length m a r.length cc sz i cur.toArray e (r.map c).flatten hu hi hs hb (by rw [hfl]; simp [Nat.min_def]) (sl_cells hv hl hsz) (by rw [hfl]; simp; omega)
      (fun u hu => by obtain ⟨x, hx, hux⟩ := List.mem_flatten.1 hu; obtain ⟨y, _, rfl⟩ := List.mem_map.1 hx; exact h1 y u hux)
    have e1 : (List.take 0 cur.toArray.toList ++ (r.map c).flatten ++ List.drop (0 + (r.map c).flatten.length) cur.toArray.toList).toArray = (r.map c).flatten.toArray := by
      rw [hfl, List.toList_toArray, List.take_zero, List.nil_append, Nat.zero_add, ← hc, List.drop_length, List.append_nil]
    rw [e1] at hr
    have e2 : goInt (Nat.min r.length r.length) = .int .i64 r.length := by simp [goInt, Nat.min_def]
    rw [show ((Nat.min r.length r.length : Nat) : Int) = ((r.length : Nat) : Int) by simp [Nat.min_def]] at hr
    have hcg := chg_row w b (r.map c).flatten.toArray
    exact runsV_ok hr (h _ trivial (setRow_heap w b _ _ e _ hb) hcg.sc hcg)
  | .slice none q cc, hv, hlen, hwf =>
    obtain rfl : q = 0 := hwf
    have hr0 : r = [] := List.eq_nil_of_length_eq_zero hlen.symm
    subst hr0
    have hc0 : cur = [] := List.eq_nil_of_length_eq_zero (by simpa using hc)
    subst hc0
    have hr : (Builtin.copy_ #[t, t] ty #[.slice (some ⟨b, 0, none⟩) 0 m, .slice none 0 cc]).run Tryz.prog w = .ok (goInt 0) w := by
      simp [Builtin.copy_, run_underlying hu, sizeOf, typeInfo, hi, Builtin.lenOf, Builtin.firstCells, storeCells]
    have hcg := Chg.refl' w b
    exact runsV_ok hr (h w trivial hb hcg.sc hcg)
end
end Go.Proofs.YtopfddchckdhgaaGreat
/- A store of a whole struct into a row of the call's own. -/
namespace Go.Proofs.YtopfddchckdhgaaGreat
set_option linter.unusedSimpArgs false
set_option linter.unusedVariables false
open Go Go.RowKit
set_option maxRecDepth 100000
set_option linter.unusedSectionVars false
set_option maxHeartbeats 1000000
theorem flat_take {k : Nat} : ∀ (l : List (List Value)) (i : Nat), (∀ c ∈ l, c.length = k) → l.flatten.take (i * k) = (l.take i).flatten
  | [], _, _ => by simp
  | a :: l, 0, _ => by simp
  | a :: l, i + 1, h => by
    have ha := h a (List.mem_cons_self ..)
    rw [List.flatten_cons, List.take_succ_cons, List.flatten_cons, Nat.succ_mul, List.take_append, List.take_of_length_le (by omega), ha, Nat.add_sub_cancel, flat_take l i (fun c hc => h c (List.mem_cons_of_mem _ hc))]
theorem flat_drop {k : Nat} : ∀ (l : List (List Value)) (i : Nat), (∀ c ∈ l, c.length = k) → l.flatten.drop (i * k) = (l.drop i).flatten
  | [], _, _ => by simp
  | a :: l, 0, _ => by simp
  | a :: l, i + 1, h => by
    have ha := h a (List.mem_cons_self ..)
    rw [List.flatten_cons, List.drop_succ_cons, Nat.succ_mul, List.drop_append, List.drop_eq_nil_of_le (by omega), ha, Nat.add_sub_cancel, List.nil_append, flat_drop l i (fun c hc => h c (List.mem_cons_of_mem _ hc))]
theorem flat_set {k i : Nat} {l : List (List Value)} {cur vs : List Value} (hl : ∀ c ∈ l, c.length = k) (hi : i < l.length) (hv : vs.length = k) (hc : cur.take (l.length * k) = l.flatten) :
    (cur.take (i * k) ++ vs ++ cur.drop (i * k + k)).take (l.length * k) = (l.set i vs).flatten := by
  have h1 : i * k + k ≤ l.length * k := by
    have := Nat.mul_le_mul_right k (Nat.succ_le_of_lt hi)
    rw [Nat.succ_mul] at this
    exact this
  have hlen : (cur.take (l.length * k)).length = l.length * k := by rw [hc, flat_len _ hl]
  have hcl : l.length * k ≤ cur.length := by rw [List.length_take] at hlen; omega
  have e1 : cur.take (i * k) = (l.take i).flatten := by
    rw [← flat_take l i hl, ← hc, List.take_take, Nat.min_eq_left (by omega)]
  have e2 : (cur.drop (i * k + k)).take (l.length * k - (i * k + k)) = (l.drop (i + 1)).flatten := by
    rw [← flat_drop l (i + 1) hl, ← hc, Nat.succ_mul, List.drop_take]
  have e3 : (cur.take (i * k) ++ vs).length = i * k + k := by rw [List.length_append, List.length_take, hv]; omega
  rw [List.take_append, e3, List.take_of_length_le (by omega), e2, e1, List.set_eq_take_append_cons_drop, if_pos hi, List.flatten_append, List.flatten_cons, List.append_assoc]
section
variable {w : World} {B e sz : Nat} {v : Value} {cs : List (List Value)}
theorem own_set {t' i : Nat} {vs : List Value} {f : World → Prop} (ht : tyK Tryz.prog t' = some (some sz)) (hsz : 0 < sz) (hown : Own w B e sz v cs) (hi : i < cs.length) (hl : vs.length = sz) (h1 : ∀ u ∈ vs, u.oneCell' = true)
    (h : ∀ b w', Now w' → blockOf v = some b → B ≤ b → b < w.heap.size → Own w' B e sz v (cs.set i vs) → Sc w w' b → Cg b w w' → f w') : storeX Tryz.prog t' (elemAt v sz i) (.agg vs.toArray) w f := by
  obtain ⟨ti, hti, hts⟩ := tyK_agg ht
  rcases hown.1.2 with ⟨rfl, hn⟩ | ⟨g, cap, cur, rfl, hbg, hg, hnc, hcm, hcs, htake⟩
  · omega
  · have hle : i * sz + sz ≤ cs.length * sz := by
      have := Nat.mul_le_mul_right sz (Nat.succ_le_of_lt hi)
      rw [Nat.succ_mul] at this
      exact this
    have hcap : cs.length * sz ≤ cap * sz := Nat.mul_le_mul_right _ hnc
    have hst := run_storeCells_at Tryz.prog g (i * sz) e vs 0 cur w hg (by simp only [Nat.add_zero]; omega) h1
    simp only [Nat.add_zero, hl] at hst
    have hrun : (Instr.storeAt t' (elemAt (.slice (some ⟨g, 0, none⟩) cs.length cap) sz i) (.agg vs.toArray)).run Tryz.prog w = .ok () (w.setRow g (cur.toList.take (i * sz) ++ vs ++ cur.toList.drop (i * sz + sz)).toArray) := by
      simp [Instr.storeAt, Instr.sureAddr, storeVar, Value.cells, run_sizeOf' hti, hts, hl, elemAt, add_none]
      simpa using hst
    unfold storeX
    rw [hrun]
    have hcg := chg_row w g (cur.toList.take (i * sz) ++ vs ++ cur.toList.drop (i * sz + sz)).toArray
    have hset := flat_set hown.each hi hl htake
    have hall : ∀ c ∈ cs.set i vs, c.length = sz := by
      intro c hc
      rcases List.mem_or_eq_of_mem_set hc with hc | rfl
      · exact hown.each c hc
      · exact hl
    have hlen : (cs.set i vs).length = cs.length := List.length_set
    refine h g _ trivial rfl hbg (Array.getElem?_eq_some_iff.1 hg).1 ⟨⟨by rw [flat_len _ hall], .inr ⟨g, cap, _, by rw [hlen], hbg, setRow_heap w g cur _ e _ hg, by rw [hlen]; exact hnc, hcm, ?_, ?_⟩⟩, hall, by rw [hlen]; exact hown.small⟩ hcg.sc hcg
    · simp only [List.size_toArray, List.length_append, List.length_take, List.length_drop, Array.length_toList, hl]
      omega
    · rw [hlen, List.toList_toArray]
      exact hset
end
end Go.Proofs.YtopfddchckdhgaaGreat
