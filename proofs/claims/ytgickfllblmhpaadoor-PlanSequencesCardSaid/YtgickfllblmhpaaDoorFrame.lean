/- The row's frame: what every law of this kind owes beside its walk. -/
import Derived.Test.YtgickfllblmhpaaDoorOpen
import Derived.WalkKit
import Derived.ProofKit
import Derived.OpenShut
import Derived.Carry
import Derived.Deep.DeepHandedRow
import Derived.Test.YtgickfllblmhpaaDoorTz
namespace Go.Proofs.YtgickfllblmhpaaDoor
set_option linter.unusedSimpArgs false
set_option linter.unusedVariables false
open Go Go.RowKit Go.ChangeShapes Go.WideShapes Go.ChangeAt Go.Deep
set_option maxRecDepth 100000
set_option linter.unusedSectionVars false
section
variable {H : Type} {enc : TypeId × Value → H} {W W' : World}
theorem args_keep (hb : Below W.heap.size W W') {sp : Nat → Bool} : ∀ {ts : List TypeId} {vs : List Value} {ds : List (DataW H)} {ps : List MemPlace}, DataW.TrodAll enc Tryd.prog W 0 (fun _ => true) true ts vs ds ps → (∀ t ∈ ts, Tryd.prog.readableRec t = true ∧ t < Tryd.prog.types.size) →
    (∀ p ∈ ps, p.block < W.heap.size) → (∀ p ∈ ps, sp p.block = true) → DataW.TrodAll enc Tryd.prog W' 0 sp true ts vs ds ps
  | [], [], [], _, h, _, _, _ => h
  | t :: ts, v :: vs, d :: ds, _, ⟨p, q, h1, h2, rfl⟩, ht, hl, hs => by
    have hlo : laidOutB Tryd.prog = true := by kernel_rfl
    refine ⟨p, q, WideElems.Trod_stays hlo (ht t (List.mem_cons_self ..)).1 (ht t (List.mem_cons_self ..)).2 h1 (fun x hx => hb.same (hl x (List.mem_append_left _ hx))) (fun x hx => hs x (List.mem_append_left _ hx)), ?_, rfl⟩
    exact args_keep hb h2 (fun t' h => ht t' (List.mem_cons_of_mem _ h)) (fun x hx => hl x (List.mem_append_right _ hx)) (fun x hx => hs x (List.mem_append_right _ hx))
/-- What a law owes when it has answered true and left what was there. -/
theorem law_post {f : Func} {s : ChangeSpec} {fresh handsOn again : Bool} {args : Array Value} {ds gs : List (DataW H)} {before : List MemPlace} {T : TypeId} (hW : DataW.Whole enc Tryd.prog f.params.toList s.vars false W args.toList ds gs before) (hsv : s.vars = [])
    (hs : s.fn H ds = { results := [.lit (.bool true)], args := ds }) (hr : f.resultTypes = #[T]) (hT : Tryd.prog.underlying T = some .bool) (hp : ∀ t ∈ f.params.toList, Tryd.prog.readableRec t = true ∧ t < Tryd.prog.types.size) (hb : Ext W W') :
    s.post enc Tryd.prog f false fresh handsOn again W args (.bool true) W' := by
  have hW0 := hW
  have hlt : ∀ p ∈ before, p.block < W.heap.size := fun p hp => hW.lt p hp
  obtain ⟨p, q, hA, hV, rfl, hfz, _⟩ := hW
  rw [hsv] at hV
  cases gs with
  | cons g gs => exact hV.elim
  | nil =>
    have hq : q = [] := hV
    subst hq
    simp only [List.append_nil] at hlt hfz hW0
    have hkeep : ∀ sp : Nat → Bool, (∀ x ∈ p, sp x.block = true) → DataW.TrodAll enc Tryd.prog W' 0 sp true f.params.toList args.toList ds p := fun sp hsp => args_keep hb hA hp hlt hsp
    have hres : ∀ (b : Nat) (sp : Nat → Bool) (hd : Bool), DataW.TrodAll enc Tryd.prog W' b sp hd f.resultTypes.toList ((Value.bool true).resultList f.resultTypes.size) [.lit (.bool true)] [] := by
      intro b sp hd
      rw [hr]
      exact ⟨[], [], ⟨1, by simp [DataW.trod, hT, Value.cells]⟩, rfl, rfl⟩
    refine ⟨ds, [], p, [], p, [], hW0, ?_, ?_, ?_, ?_, fun _ => ⟨?_, [.lit (.bool true)] ++ ds, [], p, ?_, fun x hx _ => hx⟩⟩
    · rw [List.append_nil, hs]; exact hres _ _ _
    · rw [List.append_nil, hs]; exact hkeep _ fun x hx => by simpa using hlt x hx
    · rw [List.append_nil, hs, hsv]; rfl
    · exact World.keptBut_mono (fun x hx => ⟨hx, .inr (.inl hx)⟩) (hb.frame (· ∈ p))
    · intro j t r h1 h2
      rw [hr] at h1 h2
      have hj : j = 0 := by
        rcases j with _ | j
        · rfl
        · simp at h1
      subst hj
      have e1 : T = t := by simpa using h1
      have e2 : Value.bool true = r := by simpa [Value.resultList] using h2
      subst e1; subst e2
      exact okWide_bool_mk hT true
    · refine ⟨p, [], ?_, ?_, by simp, ?_, fun h => by cases h⟩
      · rw [hr]
        exact ⟨[], p, ⟨1, by simp [DataW.trod, hT, Value.cells]⟩, hkeep _ fun _ _ => rfl, rfl⟩
      · rw [hsv]; rfl
      · intro b off hin
        rw [hb.frozen (hlt _ hin)]
        exact hfz b off hin
end
section
variable {H : Type} {enc : TypeId × Value → H} {w : World} {base : Nat} {spare : Nat → Bool} {held : Bool} {r : Reach} {b0 : Nat} {t : TypeId} {v : Value} {d : DataW H} {ps : List MemPlace}
theorem arg_struct {fs : Array Field} {α : Type} {f : α → List Value} {Φ : α → Prop} (ht : Tryd.prog.underlying t = some (.struct fs)) (hd : Dec enc w base spare held t f Φ) (hv : Value.okWide Tryd.prog w r b0 t v) (h : DataW.Trod enc Tryd.prog w base spare held t v d ps) : ∃ a, v = .agg (f a).toArray ∧ Φ a := by
  obtain ⟨cs, rfl, _⟩ := okWide_struct ht hv
  obtain ⟨fuel, hf⟩ := h
  obtain ⟨a, ha, hΦ⟩ := hd _ _ _ hf
  exact ⟨a, by rw [← ha]; rfl, hΦ⟩
theorem arg_int {k : IntKind} (ht : Tryd.prog.underlying t = some (.int k)) (hv : Value.okWide Tryd.prog w r b0 t v) (h : DataW.Trod enc Tryd.prog w base spare held t v d ps) : ∃ n, v = .int k n ∧ (Lit.int k n).wf = true := by
  obtain ⟨n, h1, _, _, h2⟩ := open_int ht hv h
  exact ⟨n, h1, h2⟩
theorem arg_bool (ht : Tryd.prog.underlying t = some .bool) (hv : Value.okWide Tryd.prog w r b0 t v) (h : DataW.Trod enc Tryd.prog w base spare held t v d ps) : ∃ b, v = .bool b := by
  obtain ⟨b, h1, _⟩ := open_bool ht hv h
  exact ⟨b, h1⟩
theorem arg_slice {e : TypeId} {α : Type} {f : α → List Value} {Φ : α → Prop} (ht : Tryd.prog.underlying t = some (.slice e)) (hd : Dec enc w base spare held t f Φ) (hv : Value.okWide Tryd.prog w r b0 t v) (h : DataW.Trod enc Tryd.prog w base spare held t v d ps) : ∃ a, [v] = f a ∧ Φ a := by
  obtain ⟨a, len, cap, rfl⟩ := okWide_slice ht hv
  obtain ⟨fuel, hf⟩ := h
  exact hd _ _ _ hf
end
theorem laid_tail {P : Program} {x : String × DataW Unit} {rest : List (String × DataW Unit)} {W : World} (h : laidMet P (x :: rest) W) : laidMet P rest W := by
  obtain ⟨ps, h1, h2, h3⟩ := h
  obtain ⟨g, t, cs, fuel, p, q, _, _, _, _, hr, rfl⟩ := h1
  exact ⟨q, hr, (List.nodup_append.1 h2).2.1, fun b off hm => h3 b off (List.mem_append_right _ hm)⟩
theorem calls_law {n : FuncId} {args : Array Value} {W : World} {R : Value → World → Prop} (h : Ret Tryd.prog n args W (.bool true)) (hR : ∀ W', Ext W W' → R (.bool true) W') : Calls Tryd.prog n args W fun e W' => ∃ v, e = .returned v ∧ R v W' :=
  Calls.mono h fun _ W' ⟨v, he, hv, hx⟩ => ⟨v, he, by subst hv; exact hR W' hx⟩
end Go.Proofs.YtgickfllblmhpaaDoor
