/- Memory: blocks of the call's own, what is kept, slices that read as lists, slices that grow. -/
import Derived.Test.YtgickfllblmhpaaDoorEng4
import Derived.Maps.AppendAt
namespace Go.Proofs.YtgickfllblmhpaaDoor
set_option linter.unusedSimpArgs false
set_option linter.unusedVariables false
open Go Go.RowKit

/-- Block b is just these cells, none frozen. -/
def Blk (w : World) (b : Nat) (t : TypeId) (cs : List Value) : Prop := w.heap[b]? = some (.cells cs.toArray t (0, 0))
/-- Nothing that was there has turned. -/
def Ext (w w' : World) : Prop := Below w.heap.size w w'

section
variable {P : Program} {w w' w'' : World} {b B : Nat} {t : TypeId} {cs : List Value}
theorem Ext.refl (w : World) : Ext w w := Below.refl _ _
theorem Ext.trans (h : Ext w w') (k : Ext w' w'') : Ext w w'' := Below.trans h (Below.mono k h.size)
theorem Ext.size (h : Ext w w') : w.heap.size ≤ w'.heap.size := Below.size h
theorem below_ext (h : Below B w w') (k : Ext w' w'') (hB : B ≤ w'.heap.size) : Below B w w'' := h.trans (Below.mono k hB)
theorem ext_below (h : Ext w w') (k : Below B w' w'') (hB : w.heap.size ≤ B) : Ext w w'' := Below.trans h (k.mono hB)
theorem Ext.trans' {w0 : World} (h : Ext w0 w) (k : Below w0.heap.size w w') : Ext w0 w' := Below.trans h k
theorem Blk.lt (h : Blk w b t cs) : b < w.heap.size := by
  rcases Nat.lt_or_ge b w.heap.size with hlt | hge
  · exact hlt
  · unfold Blk at h; rw [Array.getElem?_eq_none hge] at h; cases h
theorem Blk.cell (h : Blk w b t cs) (i : Nat) : w.cell? ⟨b, i, none⟩ = cs[i]? := by
  unfold Blk at h
  simp [World.cell?, h]
theorem Blk.frozen (h : Blk w b t cs) (i : Nat) : w.frozen? ⟨b, i, none⟩ = false := by
  unfold Blk at h
  simp [World.frozen?, h]
theorem Blk.new (w : World) (t : TypeId) (cs : List Value) : Blk (w.alloc (.cells cs.toArray t)) w.heap.size t cs :=
  heap_alloc_new w _
theorem Blk.below (h : Blk w b t cs) (hb : Below B w w') (hlt : b < B) : Blk w' b t cs := (hb.block b hlt).trans h
theorem Blk.ext (h : Blk w b t cs) (hx : Ext w w') : Blk w' b t cs := h.below hx h.lt
theorem Blk.set (h : Blk w b t cs) (i : Nat) (u : Value) : Blk (w.setCell ⟨b, i, none⟩ u) b t (cs.set i u) := by
  unfold Blk at h ⊢
  simp [World.setCell, Array.getElem?_modify, h]
theorem Blk.ne {b' : Nat} {t' : TypeId} {cs' : List Value} (h : Blk w b t cs) (h' : Blk w b' t' cs') (hne : t ≠ t') : b ≠ b' := by
  rintro rfl
  unfold Blk at h h'
  rw [h] at h'
  injection h' with h'
  injection h' with _ ht
  exact hne ht
/-- A call that hands back this value and leaves what was there as it was. -/
def Ret (P : Program) (f : FuncId) (args : Array Value) (w : World) (r : Value) : Prop := CallsV P f args w fun v w' => v = r ∧ Ext w w'
theorem ret_bind {f : FuncId} {args : Array Value} {r : Value} {K : Value → World → Prop} (h : Ret P f args w r) (hk : ∀ w', Ext w w' → K r w') : CallsV P f args w K :=
  CallsV.mono h fun v w' ⟨hv, hx⟩ => by subst hv; exact hk w' hx
theorem ret_bind' {w0 : World} {f : FuncId} {args : Array Value} {r : Value} {K : Value → World → Prop} (h0 : Ext w0 w) (h : Ret P f args w r) (hk : ∀ w', Ext w0 w' → K r w') : CallsV P f args w K :=
  CallsV.mono h fun v w' ⟨hv, hx⟩ => by subst hv; exact hk w' (h0.trans hx)
theorem Ext.alloc (w : World) (o : Obj) : Ext w (w.alloc o) := (Below.refl _ _).alloc (Nat.le_refl _) o
theorem Ext.drew (w : World) : Ext w w.drew := (Below.refl _ _).drew
theorem Ext.drawn (w : World) (n : Nat) : Ext w { w with drawn := n } := ⟨rfl, rfl, rfl, Nat.le_refl _, fun _ _ => rfl⟩

theorem alloc_intro {f : Value → World → Prop} (h : ∀ b w', Blk w' b t cs → Ext w w' → w.heap.size ≤ b → f (.pointer (some ⟨b, 0, none⟩)) w') : allocX t cs w f :=
  h _ _ (Blk.new w t cs) (Ext.alloc w _) (Nat.le_refl _)
theorem row_intro {n : Nat} {f : Value → World → Prop} (h : ∀ b w', Blk w' b t cs → Ext w w' → w.heap.size ≤ b → f (.slice (some ⟨b, 0, none⟩) n n) w') : rowX t cs n w f :=
  h _ _ (Blk.new w t cs) (Ext.alloc w _) (Nat.le_refl _)

/-- Only block b may have turned among those that were there. -/
structure Chg (w w' : World) (b : Nat) : Prop where
  os : w'.os = w.os
  tape : w'.tape = w.tape
  output : w'.output = w.output
  size : w.heap.size ≤ w'.heap.size
  block : ∀ k, k < w.heap.size → k ≠ b → w'.heap[k]? = w.heap[k]?
theorem Chg.below (h : Chg w w' b) (hB : B ≤ b) (hs : B ≤ w.heap.size) : Below B w w' := ⟨h.os, h.tape, h.output, h.size, fun k hk => h.block k (by omega) (by omega)⟩
theorem Chg.blk {b' : Nat} {t' : TypeId} {cs' : List Value} (h : Chg w w' b) (k : Blk w b' t' cs') (hne : b' ≠ b) : Blk w' b' t' cs' := (h.block b' k.lt hne).trans k
theorem chg_set (w : World) (b i : Nat) (u : Value) : Chg w (w.setCell ⟨b, i, none⟩ u) b :=
  ⟨rfl, rfl, rfl, by simp [World.setCell], fun k _ hk => Below.heap_setCell w ⟨b, i, none⟩ u k hk⟩
theorem run_storeVar_one {i : Nat} {u v : Value} {ti : TypeInfo} (hi : P.info? t = some ti) (h1 : ti.size = 1) (hv : v.oneCell' = true) (hc : w.cell? ⟨b, i, none⟩ = some u) (hf : w.frozen? ⟨b, i, none⟩ = false) :
    (storeVar t ⟨b, i, none⟩ v).run P w = .ok () (w.setCell ⟨b, i, none⟩ v) := by
  have hcs : v.cells = #[v] := by cases v <;> first | rfl | (simp [Value.oneCell'] at hv)
  simp [storeVar, hcs, run_sizeOf' hi, h1, storeCells, run_store _ _ _ _ _ hv, Addr.add, hc, hf]
/-- A store of one cell into a block that is known. -/
theorem tyK_one (h : tyK P t = some none) : ∃ ti, P.info? t = some ti ∧ ti.size = 1 := by
  unfold tyK at h
  split at h
  · cases hi : P.info? t <;> simp [hi] at h
  · cases hi : P.info? t <;> simp [hi] at h
  · split at h
    · rename_i i hi
      split at h
      · exact ⟨i, hi, by assumption⟩
      · cases h
    · cases h
  · cases h
theorem store_intro {t' : TypeId} {i : Nat} {v : Value} {f : World → Prop} (ht : tyK P t' = some none) (hb : Blk w b t cs) (hi : i < cs.length) (hv : v.oneCell' = true)
    (h : ∀ w', Blk w' b t (cs.set i v) → Chg w w' b → f w') : storeX P t' (.pointer (some ⟨b, i, none⟩)) v w f := by
  obtain ⟨ti, h1, h2⟩ := tyK_one ht
  have hc : w.cell? ⟨b, i, none⟩ = some cs[i] := by rw [hb.cell]; exact List.getElem?_eq_getElem hi
  unfold storeX
  simp only [Instr.storeAt, Instr.sureAddr, Sem.run_bind, Sem.run_pure, Result.andThen_ok, run_storeVar_one h1 h2 hv hc (hb.frozen i)]
  exact h _ (hb.set i v) (chg_set w b i v)
/-- A store of a whole struct into a block that is just that struct. -/
theorem tyK_agg {n : Nat} (h : tyK P t = some (some n)) : ∃ ti, P.info? t = some ti ∧ ti.size = n := by
  unfold tyK at h
  split at h
  · cases hi : P.info? t with
    | none => simp [hi] at h
    | some i => simp [hi] at h; exact ⟨i, rfl, h⟩
  · cases hi : P.info? t with
    | none => simp [hi] at h
    | some i => simp [hi] at h; exact ⟨i, rfl, h⟩
  · split at h
    · split at h <;> simp at h
    · cases h
  · cases h
theorem storeCells_run (hb : Blk w b t cs) : ∀ (vs : List Value) (i : Nat) (w : World) (cs : List Value), Blk w b t cs → i + vs.length ≤ cs.length → (∀ v ∈ vs, v.oneCell' = true) →
    ∃ w', (storeCells ⟨b, 0, none⟩ vs i).run P w = .ok () w' ∧ Blk w' b t (putAt cs i vs) ∧ Chg w w' b := by
  intro vs
  induction vs with
  | nil => intro i w cs hb _ _; exact ⟨w, rfl, hb, ⟨rfl, rfl, rfl, Nat.le_refl _, fun _ _ _ => rfl⟩⟩
  | cons v vs ih =>
    intro i w cs hb hl h1
    simp only [List.length_cons] at hl
    have hadd : (⟨b, 0, none⟩ : Addr).add i = ⟨b, i, none⟩ := by
      unfold Addr.add
      split
      · rename_i e; rw [e]
      · simp
    have hc : w.cell? ⟨b, i, none⟩ = some (cs[i]'(by omega)) := by rw [hb.cell]; exact List.getElem?_eq_getElem (by omega)
    obtain ⟨w', hr, hb', hx⟩ := ih (i + 1) (w.setCell ⟨b, i, none⟩ v) (cs.set i v) (hb.set i v) (by simpa using by omega) (fun u hu => h1 u (List.mem_cons_of_mem _ hu))
    have hx1 := chg_set w b i v
    refine ⟨w', ?_, hb', ⟨hx.os.trans hx1.os, hx.tape.trans hx1.tape, hx.output.trans hx1.output, Nat.le_trans hx1.size hx.size, fun k hk hne => (hx.block k (Nat.lt_of_lt_of_le hk hx1.size) hne).trans (hx1.block k hk hne)⟩⟩
    simp only [storeCells, Sem.run_bind, hadd, run_store _ _ _ _ _ (h1 v (List.mem_cons_self ..)), hc, hb.frozen i, Bool.false_eq_true, if_false, Result.andThen_ok]
    exact hr
theorem putAt_all : ∀ (vs cs pre : List Value), cs.length = vs.length → putAt (pre ++ cs) pre.length vs = pre ++ vs := by
  intro vs
  induction vs with
  | nil => intro cs pre h; have := List.eq_nil_of_length_eq_zero h; subst this; rfl
  | cons v vs ih =>
    intro cs pre h
    cases cs with
    | nil => simp at h
    | cons c cs =>
      simp only [putAt]
      rw [show (pre ++ c :: cs).set pre.length v = (pre ++ [v]) ++ cs by simp]
      have := ih cs (pre ++ [v]) (by simpa using h)
      simp only [List.length_append, List.length_singleton] at this
      rw [this]
      simp
theorem storeAgg_intro {t' : TypeId} {vs : List Value} {f : World → Prop} (ht : tyK P t' = some (some vs.length)) (hb : Blk w b t cs) (hl : cs.length = vs.length) (hv : ∀ v ∈ vs, v.oneCell' = true)
    (h : ∀ w', Blk w' b t vs → Chg w w' b → f w') : storeX P t' (.pointer (some ⟨b, 0, none⟩)) (.agg vs.toArray) w f := by
  obtain ⟨ti, h1, h2⟩ := tyK_agg ht
  obtain ⟨w', hr, hb', hx⟩ := storeCells_run (P := P) hb vs 0 w cs hb (by omega) hv
  have hp := putAt_all vs cs [] hl
  simp only [List.nil_append, List.length_nil] at hp
  rw [hp] at hb'
  unfold storeX
  have : (Instr.storeAt t' (.pointer (some ⟨b, 0, none⟩)) (.agg vs.toArray)).run P w = .ok () w' := by
    simp [Instr.storeAt, Instr.sureAddr, storeVar, Value.cells, run_sizeOf' h1, h2]
    exact hr
  rw [this]
  exact h _ hb' hx
end

/- a struct out of a block that is known -/
def consO (v : Option Value) (l : Option (List Value)) : Option (List Value) := match v, l with
  | some v, some l => some (v :: l)
  | _, _ => none
def aggO (l : Option (List Value)) : Option Value := match l with
  | some l => some (.agg l.toArray)
  | none => none
def rdB (w : World) (b : Nat) : Nat → Nat → Option (List Value)
  | _, 0 => some []
  | o, n + 1 => consO (w.cell? ⟨b, o, none⟩) (rdB w b (o + 1) n)
theorem add_none (b o i : Nat) : (⟨b, o, none⟩ : Addr).add i = ⟨b, o + i, none⟩ := by
  unfold Addr.add
  split
  · rename_i e; rw [e]; rfl
  · rfl
theorem rdN_rdB (w : World) (b o : Nat) : ∀ n i, rdN w ⟨b, o, none⟩ i n = rdB w b (o + i) n := by
  intro n
  induction n with
  | zero => intro i; rfl
  | succ n ih => intro i; simp only [rdN, rdB, ih, add_none, consO, Nat.add_assoc]; rfl
theorem U2 : (∀ n w b o, rd (some n) w ⟨b, o, none⟩ = aggO (rdB w b o n)) ∧ (∀ w b o, rdB w b o 0 = some []) ∧ (∀ w b o n, rdB w b o (n + 1) = consO (w.cell? ⟨b, o, none⟩) (rdB w b (o + 1) n)) ∧
    (∀ v l, consO (some v) (some l) = some (v :: l)) ∧ (∀ l, aggO (some l) = some (.agg l.toArray)) := by
  refine ⟨fun n w b o => ?_, fun _ _ _ => rfl, fun _ _ _ _ => rfl, fun _ _ => rfl, fun _ => rfl⟩
  simp only [rd, rdN_rdB, Nat.add_zero]
  cases rdB w b o n <;> rfl
theorem nat_lt0 (i : Nat) : ((i : Int) < 0) = False := by simp
/- reading through the world's growth -/
theorem rdN_keep {w w' : World} {a : Addr} (h : w'.heap[a.block]? = w.heap[a.block]?) : ∀ n i, rdN w' a i n = rdN w a i n := by
  intro n
  induction n with
  | zero => intro i; rfl
  | succ n ih =>
    intro i
    have hb : (a.add i).block = a.block := by unfold Addr.add; split <;> rfl
    simp only [rdN, ih, World.cell?_of_block (w := w) (w' := w') (a := a.add i) (by rw [hb]; exact h)]
theorem rd_keep {w w' : World} {a : Addr} (h : w'.heap[a.block]? = w.heap[a.block]?) (k : Option Nat) : rd k w' a = rd k w a := by
  cases k with
  | none => exact World.cell?_of_block h
  | some n => simp only [rd, rdN_keep h]
theorem one_int (k : IntKind) (n : Int) : (Value.int k n).oneCell' = true := rfl
theorem one_slice (a : Option Addr) (n c : Nat) : (Value.slice a n c).oneCell' = true := rfl
theorem one_ptr (a : Option Addr) : (Value.pointer a).oneCell' = true := rfl
theorem one_bool (b : Bool) : (Value.bool b).oneCell' = true := rfl
def blockOf : Value → Option Nat
  | .pointer (some a) => some a.block
  | .slice (some a) _ _ => some a.block
  | _ => none
theorem rdv_keep {w w' : World} {v : Value} (h : ∀ b, blockOf v = some b → w'.heap[b]? = w.heap[b]?) (k : Option Nat) : rdv k w' v = rdv k w v := by
  unfold rdv
  split
  · rename_i a; exact rd_keep (h a.block rfl) k
  · rfl

/-- A slice that reads as a list of values (k: how an element is read; sz: its cells), below block B. -/
structure Sl (w : World) (B : Nat) (k : Option Nat) (sz : Nat) (v : Value) (xs : List Value) : Prop where
  wf : SlWf v
  len : lenN v = xs.length
  cap : lenN v ≤ capN v
  max : capN v ≤ 9223372036854775807
  lt : ∀ b, blockOf v = some b → 0 < xs.length → b < B
  rd : ∀ i (h : i < xs.length), rdv k w (elemAt v sz i) = some xs[i]
section
variable {w w' : World} {B B' sz : Nat} {k : Option Nat} {v : Value} {xs : List Value}
theorem Sl.sl (h : Sl w B k sz v xs) : isSl v := by have := h.wf; cases v <;> first | trivial | exact this.elim
theorem Sl.one (h : Sl w B k sz v xs) : v.oneCell' = true := by have := h.wf; cases v <;> first | rfl | exact this.elim
theorem Sl.facts (h : Sl w B k sz v xs) : SlWf v ∧ isSl v ∧ lenN v = xs.length := ⟨h.wf, h.sl, h.len⟩
theorem blockOf_elemAt (v : Value) (sz i : Nat) : ∀ b, blockOf (elemAt v sz i) = some b → blockOf v = some b := by
  intro b
  unfold elemAt
  split
  · rename_i a n c
    intro h
    simp only [blockOf, Option.some.injEq] at h ⊢
    rw [← h]
    unfold Addr.add
    split <;> rfl
  · intro h; simp [blockOf, undef] at h
theorem Sl.below (h : Sl w B k sz v xs) (hb : Below B' w w') (hB : B ≤ B') : Sl w' B k sz v xs :=
  ⟨h.wf, h.len, h.cap, h.max, h.lt, fun i hi => by
    rw [rdv_keep (w := w) (fun b hb' => hb.block b (Nat.lt_of_lt_of_le (h.lt b (blockOf_elemAt v sz i b hb') (by omega)) hB))]
    exact h.rd i hi⟩
theorem Sl.ext (h : Sl w B k sz v xs) (hx : Ext w w') (hB : B ≤ w.heap.size) : Sl w' B k sz v xs := h.below hx hB
theorem Sl.more (h : Sl w B k sz v xs) (hB : B ≤ B') : Sl w B' k sz v xs := ⟨h.wf, h.len, h.cap, h.max, fun b hb hl => Nat.lt_of_lt_of_le (h.lt b hb hl) hB, h.rd⟩
theorem Sl.less (h : Sl w B k sz v xs) (hb : ∀ b, blockOf v = some b → b < B') : Sl w B' k sz v xs := ⟨h.wf, h.len, h.cap, h.max, fun b h _ => hb b h, h.rd⟩
theorem Sl.chg {b : Nat} (h : Sl w B k sz v xs) (hc : Chg w w' b) (hne : blockOf v ≠ some b) (hB : B ≤ w.heap.size) : Sl w' B k sz v xs :=
  ⟨h.wf, h.len, h.cap, h.max, h.lt, fun i hi => by
    rw [rdv_keep (w := w) (fun b' hb' => hc.block b' (Nat.lt_of_lt_of_le (h.lt b' (blockOf_elemAt v sz i b' hb') (by omega)) hB) (by rintro rfl; exact hne (blockOf_elemAt v sz i _ hb')))]
    exact h.rd i hi⟩
theorem Sl.nil (w : World) (B : Nat) (k : Option Nat) (sz : Nat) : Sl w B k sz (.slice none 0 0) [] :=
  ⟨rfl, rfl, Nat.le_refl _, by simp [capN], fun b hb _ => by simp [blockOf] at hb, fun i h => absurd h (by simp)⟩
theorem Sl.maxLen (h : Sl w B k sz v xs) : xs.length ≤ 9223372036854775807 := by have := h.cap; have := h.max; have := h.len; omega
end
end Go.Proofs.YtgickfllblmhpaaDoor
