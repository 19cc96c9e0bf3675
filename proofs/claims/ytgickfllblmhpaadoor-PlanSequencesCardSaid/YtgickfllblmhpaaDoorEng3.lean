/- The engine: regions, statements, loops, functions. -/
import Derived.Test.YtgickfllblmhpaaDoorEng2
namespace Go.Proofs.YtgickfllblmhpaaDoor
set_option linter.unusedSimpArgs false
set_option linter.unusedVariables false
open Go
def guardTmp (ops : Array Oper) (j : Nat) : Option Nat := (ops[j]?).bind (·.dst)

def guardOn (ops : Array Oper) (g : Fr) (o : Oper) : Bool := match o.guard with
  | none => true
  | some (j, want) => match guardTmp ops j with
    | none => false
    | some t => decide (boolOf (g t) = some want)

/-- Operations in the order of the text. -/
def wpl (P : Program) (ops : Array Oper) : List Oper → Fr → World → (Fr → World → Prop) → Prop
  | [], g, w, K => K g w
  | o :: rest, g, w, K => if guardOn ops g o then opX P o.op o.type g w fun v w' => wpl P ops rest (upo g o.dst v) w' K else wpl P ops rest (upo g o.dst undef) w K

def liftQ (n : Nat) (Q : Exit → Fr → World → Prop) : Exit → Act → World → Prop := fun e a w => ∃ g, Agr n a g ∧ Q e g w
def onNormal (K : Fr → World → Prop) : Exit → Fr → World → Prop
  | .normal, g, w => K g w
  | _, _, _ => False
def thenX (K : Fr → World → Prop) (Q : Exit → Fr → World → Prop) : Exit → Fr → World → Prop
  | .normal, g, w => K g w
  | e, g, w => Q e g w
def blockX (id : Nat) (Q : Exit → Fr → World → Prop) : Exit → Fr → World → Prop
  | .exit i, g, w => if i = id then Q .normal g w else Q (.exit i) g w
  | e, g, w => Q e g w
/-- A loop, a region whose order is drawn: as the model has them. -/
def loopX (P : Program) (n : Nat) (c : Code) (Q : Exit → Fr → World → Prop) (g : Fr) (w : World) : Prop := ∀ a, Agr n a g → (Code.loop c).wp P (liftQ n Q) a w
def wpd (P : Program) (n id : Nat) (ops : Array Oper) (g : Fr) (w : World) (K : Fr → World → Prop) : Prop := ∀ a, Agr n a g → (Code.region id ops true).wp P (liftQ n (onNormal K)) a w
def otherX (P : Program) (n : Nat) (c : Code) (Q : Exit → Fr → World → Prop) (g : Fr) (w : World) : Prop := ∀ a, Agr n a g → c.wp P (liftQ n Q) a w
def condX (v : Value) (w : World) (A B : World → Prop) : Prop := ∃ b, v = .bool b ∧ (b = true → A w) ∧ (b = false → B w)

def wpx (P : Program) (n : Nat) : Code → (Exit → Fr → World → Prop) → Fr → World → Prop
  | .skip, Q, g, w => Q .normal g w
  | .region _ ops false, Q, g, w => wpl P ops ops.toList g w (Q .normal)
  | .region id ops true, Q, g, w => wpd P n id ops g w (Q .normal)
  | .seq x y, Q, g, w => wpx P n x (thenX (wpx P n y Q) Q) g w
  | .cond c x y, Q, g, w => condX (ev g c) w (fun w => wpx P n x Q g w) (fun w => wpx P n y Q g w)
  | .block id c, Q, g, w => wpx P n c (blockX id Q) g w
  | .loop c, Q, g, w => loopX P n c Q g w
  | .exit id, Q, g, w => Q (.exit id) g w
  | .ret, Q, g, w => Q .ret g w
  | c, Q, g, w => otherX P n c Q g w

/-- Every slot that is written is one of the frame's. -/
def dstOk (n : Nat) (o : Oper) : Bool := match o.dst with
  | some d => decide (d < n)
  | none => true
def dstsOk (n : Nat) : Code → Bool
  | .region _ ops _ => ops.toList.all (dstOk n)
  | .seq x y => dstsOk n x && dstsOk n y
  | .cond _ x y => dstsOk n x && dstsOk n y
  | .block _ c => dstsOk n c
  | .loop c => dstsOk n c
  | _ => true

theorem dstOk_lt {n : Nat} {o : Oper} (h : dstOk n o = true) : ∀ k, o.dst = some k → k < n := by
  intro k hk
  simpa [dstOk, hk] using h

theorem Oper_wp_of_wp1 {P : Program} {o : Oper} {g : Fr} {w : World} {k : Value → World → Prop} {n : Nat} {a : Act} {next : Act → World → Prop} {Q : Exit → Act → World → Prop}
    (hd : dstOk n o = true) (ha : Agr n a g) (h : wp1 P o g w k) (hk : ∀ v w' a', Agr n a' (upo g o.dst v) → k v w' → next a' w') : o.wp P a w next Q := by
  unfold wp1 at h
  unfold Oper.wp
  rw [ha.eval]
  split at h
  · rename_i v w' e; rw [e]; exact hk _ _ _ (ha.put _ _ (dstOk_lt hd)) h
  · rename_i w' e; rw [e]; exact hk _ _ _ (ha.put _ _ (dstOk_lt hd)) h
  · rename_i f args w' e; rw [e]
    refine Calls.mono h fun e' w'' ⟨v, he, hv⟩ => ?_
    subst he
    exact hk _ _ _ (ha.put _ _ (dstOk_lt hd)) hv
  · exact h.elim

theorem wanted_eq {n : Nat} {a : Act} {g : Fr} (ha : Agr n a g) (ops : Array Oper) (hops : ∀ o ∈ ops.toList, dstOk n o = true) (o : Oper) :
    Region.wanted o (yielded ops a.tmps) = guardOn ops g o := by
  unfold Region.wanted guardOn
  cases hg : o.guard with
  | none => rfl
  | some jw =>
    obtain ⟨j, want⟩ := jw
    simp only
    unfold yielded guardTmp
    cases ht : (ops[j]?).bind (·.dst) with
    | none => simp
    | some t =>
      have hlt : t < n := by
        cases hj : ops[j]? with
        | none => simp [hj] at ht
        | some o' =>
          simp [hj] at ht
          exact dstOk_lt (hops o' (by simpa using Array.mem_of_getElem? hj)) t ht
      have hx := ha.2.2 t
      have hs : t < a.tmps.size := by rw [ha.2.1]; exact hlt
      have hgt : a.tmps[t]? = some (g t) := by
        rw [← hx]; simp [Array.getElem?_eq_getElem hs]
      simp only [Option.bind_some, hgt]
      cases g t <;> simp [boolOf] <;> (try rfl)

theorem wpList_of_wpl {P : Program} {ops : Array Oper} {n : Nat} (hops : ∀ o ∈ ops.toList, dstOk n o = true) {Q : Exit → Act → World → Prop} :
    ∀ (l : List Oper) (g : Fr) (w : World) (a : Act) (K : Fr → World → Prop), (∀ o ∈ l, dstOk n o = true) → Agr n a g → wpl P ops l g w K → (∀ a' g' w', Agr n a' g' → K g' w' → Q .normal a' w') → wpList P ops Q l a w := by
  intro l
  induction l with
  | nil => intro g w a K _ ha h hQ; exact hQ _ _ _ ha h
  | cons o rest ih =>
    intro g w a K hl ha h hQ
    have ho := hl o (List.mem_cons_self ..)
    have hr : ∀ o' ∈ rest, dstOk n o' = true := fun o' hm => hl o' (List.mem_cons_of_mem _ hm)
    unfold wpl at h
    unfold wpList
    rw [wanted_eq ha ops hops o]
    split at h
    · rename_i hb; rw [if_pos hb]; exact .inl (Oper_wp_of_wp1 ho ha (opX_sound h) fun v w' a' ha' hk => ih _ _ _ _ hr ha' hk hQ)
    · rename_i hb; rw [if_neg hb]; exact ih _ _ _ _ hr (ha.put _ _ (dstOk_lt ho)) h hQ

theorem wpx_sound {P : Program} {n : Nat} : ∀ (c : Code) (Q : Exit → Fr → World → Prop) (g : Fr) (w : World) (a : Act), dstsOk n c = true → Agr n a g → wpx P n c Q g w → c.wp P (liftQ n Q) a w := by
  intro c
  induction c with
  | skip => intro Q g w a _ ha h; exact wp_skip ⟨g, ha, h⟩
  | region id ops draw =>
    intro Q g w a hd ha h
    simp only [dstsOk, List.all_eq_true] at hd
    cases draw with
    | false =>
      exact wp_region_list (wpList_of_wpl hd _ g w a _ hd ha h fun a' g' w' ha' hk => ⟨g', ha', hk⟩)
    | true =>
      refine Go.wp_mono (h a ha) fun e a' w' ⟨g', ha', hq⟩ => ⟨g', ha', ?_⟩
      cases e <;> first | exact hq | exact hq.elim
  | seq x y ihx ihy =>
    intro Q g w a hd ha h
    simp only [dstsOk, Bool.and_eq_true] at hd
    refine wp_seq (Go.wp_mono (ihx _ g w a hd.1 ha h) fun e a' w' ⟨g', ha', hq⟩ => ?_)
    cases e with
    | normal => exact ihy _ g' w' a' hd.2 ha' hq
    | _ => exact ⟨g', ha', hq⟩
  | cond c x y ihx ihy =>
    intro Q g w a hd ha h
    simp only [dstsOk, Bool.and_eq_true] at hd
    obtain ⟨b, hb, ht, hf⟩ := h
    refine wp_cond_split (by rw [ha.eval]; exact hb) (fun e => ihx _ g w a hd.1 ha (ht e)) (fun e => ihy _ g w a hd.2 ha (hf e))
  | block id c ih =>
    intro Q g w a hd ha h
    refine wp_block (Go.wp_mono (ih _ g w a hd ha h) fun e a' w' ⟨g', ha', hq⟩ => ?_)
    cases e with
    | exit i =>
      simp only [blockX] at hq
      simp only [Exit.inBlock]
      split at hq
      · rename_i e; rw [if_pos e]; exact ⟨g', ha', hq⟩
      · rename_i e; rw [if_neg e]; exact ⟨g', ha', hq⟩
    | _ => exact ⟨g', ha', hq⟩
  | loop c _ => intro Q g w a _ ha h; exact h a ha
  | exit id => intro Q g w a _ ha h; exact wp_exit ⟨g, ha, h⟩
  | ret => intro Q g w a _ ha h; exact wp_ret ⟨g, ha, h⟩
  | rangeFunc f ps as b _ _ => intro Q g w a _ ha h; exact h a ha
  | scope b _ => intro Q g w a _ ha h; exact h a ha
  | label l => intro Q g w a _ ha h; exact h a ha
  | goto l => intro Q g w a _ ha h; exact h a ha
  | refuse s => intro Q g w a _ ha h; exact h a ha

/-- A loop, by a relation and a ghost that falls. -/
theorem loopX_intro {P : Program} {n : Nat} {c : Code} {Q : Exit → Fr → World → Prop} {g : Fr} {w : World} (I : Nat → Fr → World → Prop) (m : Nat) (hd : dstsOk n c = true) (h0 : I m g w)
    (round : ∀ m g w, I m g w → wpx P n c (thenX (fun g' w' => ∃ m', m' < m ∧ I m' g' w') Q) g w) : loopX P n c Q g w := by
  intro a ha
  intro b k cs
  have key : ∀ m g w a, Agr n a g → I m g w → ∃ e a' w', liftQ n Q e a' w' ∧ Arrives P (lone (b.at a (.code c :: .inLoop c :: k)) cs w) b k cs e a' w' := by
    intro m
    induction m using Nat.strongRecOn with
    | _ m ih =>
      intro g w a ha hI
      obtain ⟨e, a₁, w₁, ⟨g₁, ha₁, hq⟩, harr⟩ := wpx_sound c _ g w a hd ha (round m g w hI) b (.inLoop c :: k) cs
      cases e with
      | normal =>
        obtain ⟨m', hlt, hI'⟩ := hq
        obtain ⟨e₂, a₂, w₂, hq₂, harr₂⟩ := ih m' hlt g₁ w₁ a₁ ha₁ hI'
        exact ⟨e₂, a₂, w₂, hq₂, .of_steps (Steps.trans harr (.one step_inLoop)) harr₂⟩
      | exit id => exact ⟨_, a₁, w₁, ⟨g₁, ha₁, hq⟩, .pass (x := .inLoop c) rfl (fun _ _ => .inl (by simp)) harr⟩
      | goto l => exact ⟨_, a₁, w₁, ⟨g₁, ha₁, hq⟩, .pass (x := .inLoop c) rfl (fun _ _ => .inl (by simp)) harr⟩
      | ret => exact ⟨_, a₁, w₁, ⟨g₁, ha₁, hq⟩, .pass (x := .inLoop c) rfl (fun _ _ => .inl (by simp)) harr⟩
      | panic ch => exact ⟨_, a₁, w₁, ⟨g₁, ha₁, hq⟩, .pass (x := .inLoop c) rfl (fun _ _ => .inl (by simp)) harr⟩
      | outgrown => exact ⟨_, a₁, w₁, ⟨g₁, ha₁, hq⟩, .pass (x := .inLoop c) rfl (fun _ _ => .inl (by simp)) harr⟩
  obtain ⟨e, a', w', hq, harr⟩ := key m g w a ha h0
  exact ⟨e, a', w', hq, .of_steps (.one step_loop) harr⟩

/-- The results of a function, read off its frame. -/
def resX (P : Program) (fn : Func) (g : Fr) (w : World) (R : Value → World → Prop) : Prop :=
  ∀ tmps : Array Value, (∀ t, tmps.getD t undef = g t) → ∃ v, (results fn tmps).run P w = .ok v w ∧ R v w
def bodyX (P : Program) (fn : Func) (R : Value → World → Prop) : Exit → Fr → World → Prop
  | .normal, g, w => resX P fn g w R
  | .ret, g, w => resX P fn g w R
  | _, _, _ => False

theorem agr_init (args : Array Value) (n : Nat) (h : args.size ≤ n) : Agr n { tmps := args ++ Array.replicate (n - args.size) undef, defers := [] } (initF args.toList) := by
  refine ⟨rfl, by simp; omega, fun t => ?_⟩
  have key : ∀ (l : List Value) t, initF l t = (l[t]?).getD undef := by
    intro l
    induction l with
    | nil => intro t; simp [initF]
    | cons v l ih => intro t; cases t with
      | zero => simp [initF]
      | succ t => simp [initF, ih]
  rw [key]
  simp only [Array.getD_eq_getD_getElem?, Array.getElem?_append, Array.getElem?_toList]
  split
  · rfl
  · rename_i hge
    rw [Array.getElem?_eq_none (by omega : args.size ≤ t)]
    simp only [Array.getElem?_replicate]
    split <;> rfl

theorem callsV_of_wpx {P : Program} {f : FuncId} {fn : Func} {c : Code} {args : Array Value} {w : World} {R : Value → World → Prop} (hf : P.funcs[f]? = some fn) (hb : fn.body = some c)
    (hd : dstsOk fn.ntmps c = true) (hn : decide (args.size ≤ fn.ntmps) = true) (h : wpx P fn.ntmps c (bodyX P fn R) (initF args.toList) w) : CallsV P f args w R := by
  refine calls_of_wp hf hb (Go.wp_mono (wpx_sound c _ _ w _ hd (agr_init args _ (of_decide_eq_true hn)) h) fun e a' w' ⟨g, ha, hq⟩ => ?_)
  cases e with
  | normal =>
    obtain ⟨v, h1, h2⟩ := hq a'.tmps ha.2.2
    exact ⟨ha.1, v, h1, v, rfl, h2⟩
  | ret =>
    obtain ⟨v, h1, h2⟩ := hq a'.tmps ha.2.2
    exact ⟨ha.1, v, h1, v, rfl, h2⟩
  | _ => exact hq.elim
end Go.Proofs.YtgickfllblmhpaaDoor
