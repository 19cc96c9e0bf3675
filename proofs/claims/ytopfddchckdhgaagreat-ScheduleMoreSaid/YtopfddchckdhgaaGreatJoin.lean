
/- What follows a conditional is walked once: the engine's rules are monotone in what they ask behind them. -/
import Derived.Test.YtopfddchckdhgaaGreatRel
namespace Go.Proofs.YtopfddchckdhgaaGreat
set_option linter.unusedSimpArgs false
set_option linter.unusedVariables false
open Go
set_option linter.unusedSectionVars false
set_option linter.unusedSimpArgs false
section
variable {P : Program} {w : World} {f f' : Value → World → Prop}
theorem needX_m {c : Prop} {A A' : World → Prop} (hA : A w → A' w) (h : needX c w A) : needX c w A' := ⟨h.1, hA h.2⟩
theorem runsV_m {s : Sem Value} (hk : ∀ v w', f v w' → f' v w') (h : runsV P s w f) : runsV P s w f' := by
  unfold runsV at *
  split at h
  · exact hk _ _ h
  · exact h.elim
theorem pickX_m {c a b : Value} (hk : ∀ v w', f v w' → f' v w') (h : pickX c a b w f) : pickX c a b w f' := by
  revert h; unfold pickX bindV; split <;> first | exact hk _ _ | exact id
theorem intX_m {op : BinOp} {k : IntKind} {a b : Int} (hk : ∀ v w', f v w' → f' v w') (h : intX op k a b w f) : intX op k a b w f' := by
  cases op <;> simp only [intX] at h ⊢ <;> first | exact hk _ _ h | exact ⟨h.1, hk _ _ h.2⟩ | exact h
theorem eqY_m {o : Option (List (Option IntKind))} {neg : Bool} {xs ys : List Value} {D D' : Prop} (hk : ∀ v w', f v w' → f' v w') (hD : D → D') (h : eqY o neg xs ys w f D) : eqY o neg xs ys w f' D' := by
  revert h; unfold eqY; split
  · exact fun h => ⟨h.1, hk _ _ h.2⟩
  · exact hD
theorem nilX0_m {s : Option (Nat × Nat × Nat)} {neg : Bool} {x : Value} (hk : ∀ v w', f v w' → f' v w') (h : nilX0 s neg x w f) : nilX0 s neg x w f' := by
  revert h; unfold nilX0; split
  · exact fun h => ⟨h.1, hk _ _ h.2⟩
  · exact id
theorem binX_m {op : BinOp} {t : TypeId} {cx cy : Operand} {x y : Value} (hk : ∀ v w', f v w' → f' v w') (h : binX P op t cx cy x y w f) : binX P op t cx cy x y w f' := by
  revert h; unfold binX; split
  · exact fun h => ⟨h.1, hk _ _ h.2⟩
  · exact fun h => ⟨h.1, hk _ _ h.2⟩
  · exact fun h => ⟨h.1, intX_m hk h.2⟩
  · exact fun h => ⟨h.1, hk _ _ h.2⟩
  · exact fun h => ⟨h.1, hk _ _ h.2⟩
  · exact eqY_m hk (runsV_m hk)
  · exact eqY_m hk (runsV_m hk)
  · exact nilX0_m hk
  · exact nilX0_m hk
  · exact runsV_m hk
theorem unX_m {op : UnOp} {x : Value} (hk : ∀ v w', f v w' → f' v w') (h : unX P op x w f) : unX P op x w f' := by
  revert h; unfold unX; split
  · exact hk _ _
  · exact hk _ _
  · exact runsV_m hk
theorem fldX_m {o : Option Nat} {v : Value} (hk : ∀ v w', f v w' → f' v w') (h : fldX o v w f) : fldX o v w f' := by
  revert h; unfold fldX; split
  · exact hk _ _
  · exact id
theorem idxX_m {s : Option (Nat × Nat × Nat)} {x i : Value} (hk : ∀ v w', f v w' → f' v w') (h : idxX s x i w f) : idxX s x i w f' := by
  revert h; unfold idxX; split
  · exact fun h => ⟨h.1, hk _ _ h.2⟩
  · exact id
theorem idxY_m {a : Option (Nat × Nat)} {s : Option (Nat × Nat × Nat)} {x i : Value} (hk : ∀ v w', f v w' → f' v w') (h : idxY a s x i w f) : idxY a s x i w f' := by
  revert h; unfold idxY; split
  · exact idxX_m hk
  · exact fun h => ⟨h.1, hk _ _ h.2⟩
  · exact id
theorem optX_m {o : Option Value} (hk : ∀ v w', f v w' → f' v w') (h : optX o w f) : optX o w f' := by
  revert h; unfold optX; split
  · exact hk _ _
  · exact id
theorem loadX_m {k : Option (Option Nat)} {v : Value} (hk : ∀ v w', f v w' → f' v w') (h : loadX k w v f) : loadX k w v f' := by
  revert h; unfold loadX; split
  · exact optX_m hk
  · exact id
theorem storeX_m {t : TypeId} {a v : Value} {K K' : World → Prop} (hk : ∀ w', K w' → K' w') (h : storeX P t a v w K) : storeX P t a v w K' := by
  revert h; unfold storeX; split
  · exact hk _
  · exact id
theorem alloc0X_m {z : Option Value} {t : TypeId} (hk : ∀ v w', f v w' → f' v w') (h : alloc0X z t w f) : alloc0X z t w f' := by
  revert h; unfold alloc0X; split
  · exact hk _ _
  · exact id
theorem fillX_m {pl : List (Nat × Nat)} {F F' : List Value → World → Prop} (hk : ∀ z w', F z w' → F' z w') : ∀ {ps : List (Nat × Value)} {z : List Value} {w : World}, fillX pl z ps w F → fillX pl z ps w F'
  | [], z, w, h => by unfold fillX at *; exact hk _ _ h
  | (i, v) :: rest, z, w, h => by
    revert h; unfold fillX; split
    · exact fun h => ⟨h.1, fillX_m hk h.2⟩
    · exact id
theorem buildX_m {b : Option (List (Nat × Nat) × List Value)} {ps : List (Nat × Value)} (hk : ∀ v w', f v w' → f' v w') (h : buildX b ps w f) : buildX b ps w f' := by
  revert h; unfold buildX; split
  · exact fillX_m fun z w' => hk _ _
  · exact id
theorem bslX_m {s : Option (Nat × Nat × Nat)} {z : Option Value} {n : Nat} {ps : List (Nat × Value)} (hk : ∀ v w', f v w' → f' v w') (h : bslX s z n ps w f) : bslX s z n ps w f' := by
  revert h; unfold bslX; split
  · exact fun h => ⟨h.1, hk _ _ h.2⟩
  · exact id
theorem mkslX_m {s : Option (Nat × Nat × Nat)} {z : Option Value} {l c : Value} (hk : ∀ v w', f v w' → f' v w') (h : mkslX s z l c w f) : mkslX s z l c w f' := by
  revert h; unfold mkslX; split
  · exact fun h => ⟨h.1, hk _ _ h.2⟩
  · exact id
theorem sliceX_m {s : Option (Nat × Nat × Nat)} {x : Value} {lo hi mx : Option Value} (hk : ∀ v w', f v w' → f' v w') (h : sliceX s x lo hi mx w f) : sliceX s x lo hi mx w f' := by
  revert h; unfold sliceX; split <;> first | exact fun h => ⟨h.1, hk _ _ h.2⟩ | exact id
theorem extX_m {x : Value} {i : Nat} (hk : ∀ v w', f v w' → f' v w') (h : extX x i w f) : extX x i w f' := by
  revert h; unfold extX; split
  · exact optX_m hk
  · exact id
theorem nilX_m {x : Value} (hk : ∀ v w', f v w' → f' v w') (h : nilX x w f) : nilX x w f' := by
  revert h; unfold nilX; split
  · exact hk _ _
  · exact id
theorem convX_m {s d : Option IntKind} {x : Value} (hk : ∀ v w', f v w' → f' v w') (h : convX s d x w f) : convX s d x w f' := by
  revert h; unfold convX; split
  · exact hk _ _
  · exact id
theorem extnX_m {n : FuncId} {args : Array Value} (hk : ∀ v w', f v w' → f' v w') (h : extnX P n args w f) : extnX P n args w f' := by
  revert h; unfold extnX; split
  · exact hk _ _
  · exact id
theorem callX_m {fv : Value} {args : List Value} (hk : ∀ v w', f v w' → f' v w') (h : callX P fv args w f) : callX P fv args w f' := by
  revert h; unfold callX; split
  · unfold callY; split
    · exact fun h => h.mono hk
    · exact extnX_m hk
  · exact id
theorem lenX_m {s : Option (Nat × Nat × Nat)} {x : Value} (hk : ∀ v w', f v w' → f' v w') (h : lenX s x w f) : lenX s x w f' := by
  revert h; unfold lenX; split
  · exact fun h => ⟨h.1, hk _ _ h.2⟩
  · exact id
theorem capX_m {s : Option (Nat × Nat × Nat)} {x : Value} (hk : ∀ v w', f v w' → f' v w') (h : capX s x w f) : capX s x w f' := by
  revert h; unfold capX; split
  · exact fun h => ⟨h.1, hk _ _ h.2⟩
  · exact id
theorem minX_m {x y : Value} (hk : ∀ v w', f v w' → f' v w') (h : minX x y w f) : minX x y w f' := by
  revert h; unfold minX; split
  · exact hk _ _
  · exact id
theorem maxX_m {x y : Value} (hk : ∀ v w', f v w' → f' v w') (h : maxX x y w f) : maxX x y w f' := by
  revert h; unfold maxX; split
  · exact hk _ _
  · exact id
theorem biX_m {b : Builtin} {ty : TypeId} {args : List Operand} {ts : List TypeId} {g : Fr} (hk : ∀ v w', f v w' → f' v w') (h : biX P b ty args ts g w f) : biX P b ty args ts g w f' := by
  revert h; unfold biX; split
  · exact lenX_m hk
  · exact capX_m hk
  · exact runsV_m hk
  · exact runsV_m hk
  · exact runsV_m hk
  · exact minX_m hk
  · exact maxX_m hk
  · exact fun h => wp1_mono h hk
theorem opX_m {op : Op} {ty : TypeId} {g : Fr} (hk : ∀ v w', f v w' → f' v w') (h : opX P op ty g w f) : opX P op ty g w f' := by
  revert h; unfold opX; split
  · exact hk _ _
  · exact hk _ _
  · exact pickX_m hk
  · exact binX_m hk
  · exact unX_m hk
  · exact fldX_m hk
  · exact idxY_m hk
  · exact loadX_m hk
  · exact storeX_m fun w' => hk _ _
  · exact alloc0X_m hk
  · exact hk _ _
  · exact buildX_m hk
  · exact bslX_m hk
  · exact nilX_m hk
  · exact convX_m hk
  · exact hk _ _
  · exact mkslX_m hk
  · exact sliceX_m hk
  · exact extX_m hk
  · exact callX_m hk
  · exact biX_m hk
  · exact fun h => wp1_mono h hk
theorem wpl_m {ops : Array Oper} {K K' : Fr → World → Prop} (hk : ∀ g w, K g w → K' g w) : ∀ {l : List Oper} {g : Fr} {w : World}, wpl P ops l g w K → wpl P ops l g w K'
  | [], g, w, h => by unfold wpl at *; exact hk _ _ h
  | o :: rest, g, w, h => by
    unfold wpl at *
    split at h
    · rename_i e; rw [if_pos e]; exact opX_m (fun v w' => wpl_m hk) h
    · rename_i e; rw [if_neg e]; exact wpl_m hk h
theorem wpx_m {n : Nat} : ∀ {c : Code} {Q Q' : Exit → Fr → World → Prop} {g : Fr} {w : World}, (∀ e g w, Q e g w → Q' e g w) → wpx P n c Q g w → wpx P n c Q' g w := by
  intro c
  induction c with
  | skip => intro Q Q' g w hq h; exact hq _ _ _ h
  | region id ops draw =>
    intro Q Q' g w hq h
    cases draw with
    | false => exact wpl_m (hq .normal) h
    | true =>
      intro a ha
      refine Go.wp_mono (h a ha) fun e a' w' ⟨g', ha', hh⟩ => ⟨g', ha', ?_⟩
      cases e <;> first | exact hq _ _ _ hh | exact hh.elim
  | seq x y ihx ihy =>
    intro Q Q' g w hq h
    refine ihx (fun e g w hh => ?_) h
    cases e with
    | normal => exact ihy hq hh
    | _ => exact hq _ _ _ hh
  | cond c x y ihx ihy =>
    intro Q Q' g w hq h
    obtain ⟨b, hb, ht, hf⟩ := h
    exact ⟨b, hb, fun e => ihx hq (ht e), fun e => ihy hq (hf e)⟩
  | block id c ih =>
    intro Q Q' g w hq h
    refine ih (fun e g w hh => ?_) h
    cases e with
    | exit i => unfold blockX at *; simp only at *; split at hh <;> (rename_i e; first | (rw [if_pos e]; exact hq _ _ _ hh) | (rw [if_neg e]; exact hq _ _ _ hh))
    | _ => exact hq _ _ _ hh
  | loop c ih =>
    intro Q Q' g w hq h a ha
    exact Go.wp_mono (h a ha) fun e a' w' ⟨g', ha', hh⟩ => ⟨g', ha', hq _ _ _ hh⟩
  | exit id => intro Q Q' g w hq h; exact hq _ _ _ h
  | ret => intro Q Q' g w hq h; exact hq _ _ _ h
  | _ =>
    intro Q Q' g w hq h a ha
    exact Go.wp_mono (h a ha) fun e a' w' ⟨g', ha', hh⟩ => ⟨g', ha', hq _ _ _ hh⟩
theorem fork_join {n : Nat} {b : Bool} {x y : Code} {Q : Exit → Fr → World → Prop} {g : Fr} (I : Fr → World → Prop) (h1 : b = true → wpx P n x (thenX I Q) g w) (h2 : b = false → wpx P n y (thenX I Q) g w) (h3 : ∀ g' w', Now w' → I g' w' → Q .normal g' w') :
    forkX b w (fun w => wpx P n x Q g w) (fun w => wpx P n y Q g w) := by
  have hq : ∀ e g w, thenX I Q e g w → Q e g w := fun e g w hh => by
    cases e with
    | normal => exact h3 _ _ trivial hh
    | _ => exact hh
  exact ⟨fun e => wpx_m hq (h1 e), fun e => wpx_m hq (h2 e)⟩
theorem wpd_join {n id : Nat} {ops : Array Oper} {y z : Code} {Q : Exit → Fr → World → Prop} {g : Fr} {K : Fr → World → Prop} (I : Fr → World → Prop) (hK : ∀ g w, wpx P n y (thenX (wpx P n z Q) Q) g w → K g w) (h1 : wpdH P n id ops g w fun g w => wpx P n y (thenX I Q) g w) (h2 : ∀ g' w', Now w' → I g' w' → wpx P n z Q g' w') : wpdH P n id ops g w K := by
  intro a ha
  refine Go.wp_mono (h1 a ha) fun e a' w' ⟨g', ha', hh⟩ => ⟨g', ha', ?_⟩
  cases e with
  | normal =>
    refine hK _ _ (wpx_m (fun e g w hq => ?_) hh)
    cases e with
    | normal => exact h2 _ _ trivial hq
    | _ => exact hq
  | _ => exact hh.elim
def forkH (b : Bool) (w : World) (A B : World → Prop) : Prop := forkX b w A B
theorem fork_hold (b : Bool) {A B : World → Prop} (h : forkH b w A B) : forkX b w A B := h
end
end Go.Proofs.YtopfddchckdhgaaGreat
