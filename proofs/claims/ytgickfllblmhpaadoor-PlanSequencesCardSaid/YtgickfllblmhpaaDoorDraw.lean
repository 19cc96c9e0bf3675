/- The engine: regions whose order is drawn. -/
import Derived.Test.YtgickfllblmhpaaDoorEng5
import Derived.Deep.Quiet
import Derived.StillTail
namespace Go.Proofs.YtgickfllblmhpaaDoor
set_option linter.unusedSimpArgs false
set_option linter.unusedVariables false
open Go Go.RowKit
def plainB : Value → Value → Bool
  | .int .., .int .. => true
  | _, _ => false
def plainU : UnOp → Value → Bool
  | .not, .bool _ => true
  | _, _ => false
def lenOnly : List Operand → List TypeId → Bool
  | [_], [_] => true
  | _, _ => false
def lenCall : Call → Bool
  | ⟨.builtin .len, args, ts⟩ => lenOnly args.toList ts.toList
  | _ => false
/-- What only looks at what is there. -/
def quietOp (g : Fr) : Op → Bool
  | .move _ => true
  | .assign _ => true
  | .pick .. => true
  | .binOp _ _ x y _ => plainB (ev g x) (ev g y)
  | .unOp op _ x => plainU op (ev g x)
  | .fieldAddr .. => true
  | .indexAddr .. => true
  | .load .. => true
  | .extract .. => true
  | .convert .. => true
  | .call c => lenCall c
  | _ => false
section
variable {P : Program} {w w' : World}
theorem cell_ext {a : Addr} {v : Value} (h : w.cell? a = some v) (hx : Ext w w') : w'.cell? a = some v := by
  rcases Nat.lt_or_ge a.block w.heap.size with hl | hl
  · rw [World.cell?_of_block (hx.block _ hl)]; exact h
  · simp [World.cell?, Array.getElem?_eq_none hl] at h
theorem rdN_ext {a : Addr} (hx : Ext w w') : ∀ n i l, rdN w a i n = some l → rdN w' a i n = some l := by
  intro n
  induction n with
  | zero => intro i l h; exact h
  | succ n ih =>
    intro i l h
    unfold rdN at h ⊢
    split at h
    · rename_i v l' h1 h2
      rw [cell_ext h1 hx, ih _ _ h2]
      exact h
    · cases h
theorem rdv_ext {k : Option Nat} {v u : Value} (hx : Ext w w') (h : rdv k w v = some u) : rdv k w' v = some u := by
  unfold rdv at h ⊢
  split at h
  · cases k with
    | none => exact cell_ext h hx
    | some n =>
      simp only [rd, Option.map_eq_some_iff] at h ⊢
      obtain ⟨l, h1, h2⟩ := h
      exact ⟨l, rdN_ext hx _ _ _ h1, h2⟩
  · cases h
/-- One value, in every world that has grown out of this one. -/
theorem quiet_val {op : Op} {ty : TypeId} {g : Fr} {k : Value → World → Prop} (hq : quietOp g op = true) (h : opX P op ty g w k) :
    ∃ v, k v w ∧ ∀ w', Ext w w' → opX P op ty g w' fun u w'' => u = v ∧ w'' = w' := by
  cases op <;> simp only [quietOp] at hq <;> try (exact absurd hq (by decide))
  case move x => exact ⟨_, h, fun w' _ => by first | exact ⟨rfl, rfl⟩ | simp⟩
  case assign x => exact ⟨_, h, fun w' _ => by first | exact ⟨rfl, rfl⟩ | simp⟩
  case pick c a b =>
    simp only [opX, pickX] at h ⊢
    split at h
    · exact ⟨_, h, fun w' _ => by first | exact ⟨rfl, rfl⟩ | simp⟩
    · exact ⟨_, h, fun w' _ => by first | exact ⟨rfl, rfl⟩ | simp⟩
    · exact h.elim
  case binOp op t x y c =>
    simp only [opX] at h ⊢
    unfold plainB at hq
    split at hq
    · rename_i k1 a k2 b e1 e2
      rw [e1, e2] at h ⊢
      cases op <;> simp only [binX, intX, needX] at h ⊢ <;> first
        | (obtain ⟨h1, h2, h3⟩ := h; exact ⟨_, h3, fun w' _ => by simp [h1, h2]⟩)
        | (obtain ⟨h1, h2⟩ := h; exact ⟨_, h2, fun w' _ => by simp [h1]⟩)
        | (exact absurd h (by simp))
    · cases hq
  case unOp op t x =>
    simp only [opX] at h ⊢
    unfold plainU at hq
    split at hq
    · rename_i b e
      rw [e] at h ⊢
      exact ⟨_, h, fun w' _ => by first | exact ⟨rfl, rfl⟩ | simp⟩
    · cases hq
  case fieldAddr s x i =>
    simp only [opX, fldX] at h ⊢
    split at h
    · exact ⟨_, h, fun w' _ => by first | exact ⟨rfl, rfl⟩ | simp⟩
    · exact h.elim
  case indexAddr t x i =>
    simp only [opX, idxY, idxX] at h ⊢
    split at h
    · split at h
      · exact ⟨_, h.2, fun w' _ => ⟨h.1, by simp⟩⟩
      · exact h.elim
    · exact ⟨_, h.2, fun w' _ => ⟨h.1, by simp⟩⟩
    · exact h.elim
  case load t x =>
    simp only [opX, loadX] at h ⊢
    split at h
    · unfold optX at h
      split at h
      · rename_i u hu
        refine ⟨_, h, fun w' hx => ?_⟩
        unfold optX
        rw [rdv_ext hx hu]
        simp
      · exact h.elim
    · exact h.elim
  case extract x i =>
    simp only [opX, extX] at h ⊢
    split at h
    · unfold optX at h ⊢
      split at h
      · exact ⟨_, h, fun w' _ => by first | exact ⟨rfl, rfl⟩ | simp⟩
      · exact h.elim
    · exact h.elim
  case convert s d x =>
    simp only [opX, convX] at h ⊢
    split at h
    · exact ⟨_, h, fun w' _ => by first | exact ⟨rfl, rfl⟩ | simp⟩
    · exact h.elim
  case call c =>
    unfold lenCall at hq
    split at hq
    · rename_i args ts
      have e : ∀ w k, opX P (.call ⟨.builtin .len, args, ts⟩) ty g w k = biX P .len ty args.toList ts.toList g w k := fun _ _ => rfl
      simp only [e] at h ⊢
      unfold lenOnly at hq
      split at hq
      · rename_i x t' e1 e2
        rw [e1, e2] at h ⊢
        simp only [biX, lenX] at h ⊢
        split at h
        · exact ⟨_, h.2, fun w' _ => ⟨h.1, by simp⟩⟩
        · exact h.elim
      · cases hq
    · cases hq
theorem quiet_shape {op : Op} {ty : TypeId} {g : Fr} (hq : quietOp g op = true) : ∃ s : Sem Value, execOp (ev g) (bare op ty) = (do let v ← s; pure (.value v)) := by
  cases op <;> simp only [quietOp] at hq <;> try (exact absurd hq (by decide))
  case move x => exact ⟨pure (ev g x), by simp [execOp, bare]⟩
  case assign x => exact ⟨pure (ev g x), by simp [execOp, bare]⟩
  case pick c a b => exact ⟨do pure (if ← asBool (ev g c) then ev g a else ev g b), by simp [execOp, bare]⟩
  case call c =>
    unfold lenCall at hq
    split at hq
    · rename_i args ts
      unfold lenOnly at hq
      split at hq
      · rename_i x t ha ht
        refine ⟨Builtin.len_ #[t] ty #[ev g x], ?_⟩
        have h1 : args = #[x] := by apply Array.ext'; simpa using ha
        have h2 : ts = #[t] := by apply Array.ext'; simpa using ht
        subst h1; subst h2
        simp [execOp, bare, resolve, invoke, builtin]
      · cases hq
    · cases hq
  all_goals exact ⟨_, by simp only [execOp, bare]; rfl⟩
/-- A call that hands back one value in every world that has grown out of this one. -/
def qret (P : Program) (w : World) (f : FuncId) (args : Array Value) (k : Value → World → Prop) : Prop := ∃ v, (∀ w', Ext w w' → Ret P f args w' v) ∧ k v w
theorem qret_intro {f : FuncId} {args : Array Value} {k : Value → World → Prop} {v : Value} (h : ∀ w', Ext w w' → Ret P f args w' v) (hk : k v w) : qret P w f args k := ⟨v, h, hk⟩
def qcallX (P : Program) (w : World) (fv : Value) (args : List Value) (k : Value → World → Prop) : Prop := match fv with
  | .func (.func n) first cap => needX (callable P n = true) w fun w => qret P w n (first.toList ++ args ++ cap.toList).toArray k
  | _ => False
/-- One operation of a region whose order is drawn (c: calls are let in). -/
def stepQ (P : Program) (c : Bool) (op : Op) (ty : TypeId) (g : Fr) (w : World) (k : Value → World → Prop) : Prop := match op with
  | .call ⟨.value f, args, _⟩ => needX (c = true) w fun w => qcallX P w (ev g f) (mapE g args.toList) k
  | op => needX (quietOp g op = true) w fun w => opX P op ty g w k
def wq (P : Program) (c : Bool) (ops : Array Oper) : List Oper → Fr → World → (Fr → World → Prop) → Prop
  | [], g, w, K => K g w
  | o :: rest, g, w, K => if guardOn ops g o then stepQ P c o.op o.type g w fun v w => wq P c ops rest (upo g o.dst v) w K else wq P c ops rest (upo g o.dst undef) w K

theorem quietAt_of_opX {o : Oper} {g : Fr} {C : World → Prop} {v : Value} {n : Nat} {a : Act} (ha : Agr n a g) (hq : quietOp g o.op = true) (h : opX P o.op o.type g w fun u w'' => u = v ∧ w'' = w) : o.quietAt P a C w v := by
  have h1 : wp1 P o g w fun u w'' => u = v ∧ w'' = w := opX_sound h
  obtain ⟨s, hs⟩ := quiet_shape (ty := o.type) hq
  have hs' : execOp (ev g) o = (do let v ← s; pure (.value v)) := by rw [← hs]; rfl
  unfold wp1 at h1
  unfold Oper.quietAt Oper.quietUpon
  rw [ha.eval]
  rw [hs'] at h1 ⊢
  simp only [Sem.run_bind, Sem.run_pure] at h1 ⊢
  cases hr : s.run P w with
  | ok u w' =>
    rw [hr] at h1
    exact ⟨h1.2, h1.1⟩
  | halt x w' =>
    rw [hr] at h1
    exact h1.elim
theorem quietAt_of_call {o : Oper} {g : Fr} {C : World → Prop} {v : Value} {n m : Nat} {a : Act} {f : Operand} {args : Array Operand} {ts : Array TypeId} {first cap : Array Value} (ha : Agr n a g) (ho : o.op = .call ⟨.value f, args, ts⟩) (hf : ev g f = .func (.func m) first cap)
    (hc : callable P m = true) (h : CallsV P m (first.toList ++ mapE g args.toList ++ cap.toList).toArray w fun u w'' => u = v ∧ C w'') : o.quietAt P a C w v := by
  unfold callable at hc
  split at hc
  · rename_i fn hfn
    simp only [Bool.and_eq_true, Bool.not_eq_true'] at hc
    unfold Oper.quietAt Oper.quietUpon
    rw [ha.eval]
    have h1 : ¬ fn.name = "runtime.NumGoroutine" := by simpa using hc.1
    have h2 : ¬ fn.body = none := by intro e; simp [e] at hc
    have hargs : args.map (ev g) = (mapE g args.toList).toArray := by rw [mapE_arr]
    have : (execOp (ev g) o).run P w = .ok (.enter m ((first ++ (mapE g args.toList).toArray) ++ cap)) w := by
      simp [execOp, ho, resolve, hf, Deferred.ofValue, hargs, invoke, callFunc, hfn, h1, h2]
    rw [this]
    have e : (first.toList ++ mapE g args.toList ++ cap.toList).toArray = first ++ (mapE g args.toList).toArray ++ cap := by apply Array.ext'; simp
    rw [e] at h
    exact ⟨rfl, Calls.mono h fun e' w'' ⟨u, he, hu, hC⟩ => ⟨by rw [he, hu], hC⟩⟩
  · cases hc

theorem wpQuiet_of_wq {ops : Array Oper} {n : Nat} (hops : ∀ o ∈ ops.toList, dstOk n o = true) {Q : Act → Prop} :
    ∀ (l : List Oper) (g : Fr) (a : Act) (K : Fr → World → Prop), (∀ o ∈ l, dstOk n o = true) → Agr n a g → wq P true ops l g w K → (∀ a' g', Agr n a' g' → K g' w → Q a') → wpQuiet P ops (Ext w) Q l a := by
  intro l
  induction l with
  | nil => intro g a K _ ha h hQ; exact hQ _ _ ha h
  | cons o rest ih =>
    intro g a K hl ha h hQ
    have ho := hl o (List.mem_cons_self ..)
    have hr : ∀ o' ∈ rest, dstOk n o' = true := fun o' hm => hl o' (List.mem_cons_of_mem _ hm)
    unfold wq at h
    unfold wpQuiet
    rw [wanted_eq ha ops hops o]
    split at h
    · rename_i hb
      rw [if_pos hb]
      unfold stepQ at h
      split at h
      · rename_i f args ts he
        obtain ⟨_, h⟩ := h
        unfold qcallX at h
        split at h
        · rename_i m first cap hf
          obtain ⟨hc, v, hv, hk⟩ := h
          refine ⟨v, fun w' hw' => quietAt_of_call ha he hf hc ?_, ih _ _ _ hr (ha.put _ _ (dstOk_lt ho)) hk hQ⟩
          exact CallsV.mono (hv w' hw') fun u w'' ⟨e, hx⟩ => ⟨e, Ext.trans hw' hx⟩
        · exact h.elim
      · obtain ⟨hq, h⟩ := h
        obtain ⟨v, hk, hv⟩ := quiet_val hq h
        exact ⟨v, fun w' hw' => quietAt_of_opX ha hq (hv w' hw'), ih _ _ _ hr (ha.put _ _ (dstOk_lt ho)) hk hQ⟩
    · rename_i hb; rw [if_neg hb]; exact ih _ _ _ hr (ha.put _ _ (dstOk_lt ho)) h hQ
/-- A region whose order is drawn and that only looks, and calls. -/
theorem wpd_quiet {n id : Nat} {ops : Array Oper} {g : Fr} {K : Fr → World → Prop} (hm : P.follows .mixedOrders = true) (hB : Region.lexB .any ops = true) (hd : ops.toList.all (dstOk n) = true)
    (h : wq P true ops ops.toList g w fun g' w => ∀ w', Ext w w' → K g' w') : wpd P n id ops g w K := by
  intro a ha
  rw [List.all_eq_true] at hd
  refine wp_region_quiet hm hB (C := Ext w) (Ext.drawn w _) ?_
  exact wpQuiet_of_wq hd _ _ _ _ hd ha h fun a' g' ha' hk w' hw' => ⟨g', ha', hk w' hw'⟩

theorem wpStill_of_wq {ops : Array Oper} {n : Nat} (hx : Ext w w') (hops : ∀ o ∈ ops.toList, dstOk n o = true) {Q : Act → Prop} :
    ∀ (l : List Oper) (g : Fr) (a : Act) (K : Fr → World → Prop), (∀ o ∈ l, dstOk n o = true) → Agr n a g → wq P false ops l g w K → (∀ a' g', Agr n a' g' → K g' w → Q a') → wpStill P ops w' Q l a := by
  intro l
  induction l with
  | nil => intro g a K _ ha h hQ; exact hQ _ _ ha h
  | cons o rest ih =>
    intro g a K hl ha h hQ
    have ho := hl o (List.mem_cons_self ..)
    have hr : ∀ o' ∈ rest, dstOk n o' = true := fun o' hm => hl o' (List.mem_cons_of_mem _ hm)
    unfold wq at h
    unfold wpStill
    rw [wanted_eq ha ops hops o]
    split at h
    · rename_i hb
      rw [if_pos hb]
      unfold stepQ at h
      split at h
      · exact absurd h.1 (by decide)
      · obtain ⟨hq, h⟩ := h
        obtain ⟨v, hk, hv⟩ := quiet_val hq h
        have := quietAt_of_opX (C := fun _ => False) ha hq (hv w' hx)
        unfold Oper.quietAt Oper.quietUpon at this
        unfold Oper.still Oper.stillUpon
        split at this
        · rename_i e; rw [e]; obtain ⟨h1, rfl⟩ := this; exact ⟨h1, ih _ _ _ hr (ha.put _ _ (dstOk_lt ho)) hk hQ⟩
        · rename_i e; rw [e]; obtain ⟨h1, rfl⟩ := this; exact ⟨h1, ih _ _ _ hr (ha.put _ _ (dstOk_lt ho)) hk hQ⟩
        · rename_i e; rw [e]; obtain ⟨h1, h2⟩ := this; exact ⟨h1, v, Calls.mono h2 fun _ _ h => h.2.elim, ih _ _ _ hr (ha.put _ _ (dstOk_lt ho)) hk hQ⟩
        · exact this.elim
    · rename_i hb; rw [if_neg hb]; exact ih _ _ _ hr (ha.put _ _ (dstOk_lt ho)) h hQ
/-- A region whose order is drawn, and whose first m operations only look. -/
theorem wpd_tail {n id : Nat} {l : List Oper} {g : Fr} {K : Fr → World → Prop} (m : Nat) (hm : P.follows .mixedOrders = true) (hB : Region.lexTailB .any l.toArray m = true) (hd : l.all (dstOk n) = true)
    (h : wq P false l.toArray (l.take m) g w fun g' w => ∀ w', Ext w w' → w'.heap = w.heap → wpl P l.toArray (l.drop m) g' w' K) : wpd P n id l.toArray g w K := by
  intro a ha
  rw [List.all_eq_true] at hd
  refine wp_region_still_tail m hm hB ?_
  refine wpStill_of_wq (Ext.drawn w _) (by simpa using hd) _ _ _ _ (fun o ho => hd o (List.mem_of_mem_take ho)) ha h fun a' g' ha' hk => ?_
  exact wpList_of_wpl (by simpa using hd) _ _ _ _ _ (fun o ho => hd o (List.mem_of_mem_drop ho)) ha' (hk _ (Ext.drawn w _) rfl) fun a'' g'' w'' ha'' hk'' => ⟨g'', ha'', hk''⟩
theorem Chg.after {b : Nat} {w'' : World} (hx : Ext w w') (h : Chg w' w'' b) : Chg w w'' b :=
  ⟨h.os.trans hx.os, h.tape.trans hx.tape, h.output.trans hx.output, Nat.le_trans hx.size h.size, fun k hk hne => (h.block k (Nat.lt_of_lt_of_le hk hx.size) hne).trans (hx.block k hk)⟩
theorem wpd_quiet_lit {n id : Nat} {l : List Oper} {g : Fr} {K : Fr → World → Prop} (hm : P.follows .mixedOrders = true) (hB : Region.lexB .any l.toArray = true) (hd : l.all (dstOk n) = true)
    (h : wq P true l.toArray l g w fun g' w => ∀ w', Ext w w' → K g' w') : wpd P n id l.toArray g w K :=
  wpd_quiet hm hB (by simpa using hd) (by simpa using h)
end
theorem wq_cons {P : Program} {c : Bool} {ops : Array Oper} {o : Oper} {rest : List Oper} {g : Fr} {w : World} {K : Fr → World → Prop} :
    wq P c ops (o :: rest) g w K = if guardOn ops g o then stepQ P c o.op o.type g w fun v w => wq P c ops rest (upo g o.dst v) w K else wq P c ops rest (upo g o.dst undef) w K := rfl
/-- The rules of a region whose order is drawn. -/
theorem Q :
    (∀ (P : Program) c ops g w K, Now w → wq P c ops [] g w K = K g w) ∧
    (∀ (P : Program) c ops d op ty pos af rest g w K, Now w → wq P c ops (⟨d, op, ty, pos, af, none⟩ :: rest) g w K = stepQ P c op ty g w fun v w' => wq P c ops rest (upo g d v) w' K) ∧
    (∀ (P : Program) c ops d op ty pos af j want rest g w K, Now w → wq P c ops (⟨d, op, ty, pos, af, some (j, want)⟩ :: rest) g w K = guardX (guardTmp ops j) g want w (fun w => stepQ P c op ty g w fun v w' => wq P c ops rest (upo g d v) w' K) (fun w => wq P c ops rest (upo g d undef) w K)) ∧
    (∀ (P : Program) c x ty g w k, Now w → stepQ P c (.move x) ty g w k = opX P (.move x) ty g w k) ∧
    (∀ (P : Program) c x ty g w k, Now w → stepQ P c (.assign x) ty g w k = opX P (.assign x) ty g w k) ∧
    (∀ (P : Program) c x y z ty g w k, Now w → stepQ P c (.pick x y z) ty g w k = opX P (.pick x y z) ty g w k) ∧
    (∀ (P : Program) c op t x y z ty g w k, Now w → stepQ P c (.binOp op t x y z) ty g w k = needX (plainB (ev g x) (ev g y) = true) w fun w => opX P (.binOp op t x y z) ty g w k) ∧
    (∀ (P : Program) c op t x ty g w k, Now w → stepQ P c (.unOp op t x) ty g w k = needX (plainU op (ev g x) = true) w fun w => opX P (.unOp op t x) ty g w k) ∧
    (∀ (P : Program) c s x i ty g w k, Now w → stepQ P c (.fieldAddr s x i) ty g w k = opX P (.fieldAddr s x i) ty g w k) ∧
    (∀ (P : Program) c t x i ty g w k, Now w → stepQ P c (.indexAddr t x i) ty g w k = opX P (.indexAddr t x i) ty g w k) ∧
    (∀ (P : Program) c t x ty g w k, Now w → stepQ P c (.load t x) ty g w k = opX P (.load t x) ty g w k) ∧
    (∀ (P : Program) c x i ty g w k, Now w → stepQ P c (.extract x i) ty g w k = opX P (.extract x i) ty g w k) ∧
    (∀ (P : Program) c s d x ty g w k, Now w → stepQ P c (.convert s d x) ty g w k = opX P (.convert s d x) ty g w k) ∧
    (∀ (P : Program) c x t ty g w k, Now w → stepQ P c (.call ⟨.builtin .len, [x].toArray, [t].toArray⟩) ty g w k = opX P (.call ⟨.builtin .len, [x].toArray, [t].toArray⟩) ty g w k) ∧
    (∀ (P : Program) f (args : List Operand) ts ty g w k, Now w → stepQ P true (.call ⟨.value f, args.toArray, ts⟩) ty g w k = qcallX P w (ev g f) (mapE g args) k) ∧
    (∀ (P : Program) m (a b : List Value) args w k, qcallX P w (.func (.func m) a.toArray b.toArray) args k = needX (callable P m = true) w fun w => qret P w m (a ++ args ++ b).toArray k) ∧
    (∀ k a k' b, plainB (.int k a) (.int k' b) = true) ∧ (∀ b, plainU .not (.bool b) = true) ∧
    (∀ (o : Oper) l m, (o :: l).take (m + 1) = o :: l.take m) ∧ (∀ (l : List Oper), l.take 0 = []) ∧ (∀ (o : Oper) l m, (o :: l).drop (m + 1) = l.drop m) ∧ (∀ (l : List Oper), l.drop 0 = l) := by
  refine ⟨fun _ _ _ _ _ _ _ => rfl, ?_⟩
  refine ⟨fun P c ops d op ty pos af rest g w K _ => by simp [wq, guardOn], ?_⟩
  refine ⟨fun P c ops d op ty pos af j want rest g w K _ => ?_, ?_⟩
  · have h : guardOn ops g ⟨d, op, ty, pos, af, some (j, want)⟩ = gOn (guardTmp ops j) g want := rfl
    rw [wq_cons, h]
    generalize guardTmp ops j = x
    cases x with
    | none => rfl
    | some t => simp [gOn, guardX]
  repeat' apply And.intro
  all_goals (intros; first | rfl | simp [stepQ, quietOp, needX, lenCall, lenOnly, plainB, plainU])
end Go.Proofs.YtgickfllblmhpaaDoor
