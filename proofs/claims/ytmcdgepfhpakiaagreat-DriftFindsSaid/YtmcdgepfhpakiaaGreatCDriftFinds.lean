/- The statement DriftFinds: for every input the law answers true and leaves its arguments as they were. No condition. -/
import Derived.Test.YtmcdgepfhpakiaaGreatRows
import Derived.Test.YtmcdgepfhpakiaaGreatFrame
import Derived.Test.YtmcdgepfhpakiaaGreatOpen30z
import Derived.Test.YtmcdgepfhpakiaaGreatLaw30i
namespace Go.Proofs.YtmcdgepfhpakiaaGreat.driftFinds
set_option linter.unusedSimpArgs false
set_option linter.unusedVariables false
open Go Go.ChangeShapes Go.WideShapes Go.ChangeAt Go.RowKit
set_option maxRecDepth 100000
theorem own : ownKnob Tryz.prog.godebug = none := by kernel_rfl
theorem contract (H : Type) (enc : TypeId × Value → H) (W : World) (base : Nat) (args : Array Value) (ds gs : List (DataW H)) (before : List MemPlace)
    (hval : ∀ (j : Nat) t v, Tryz.f4.params[j]? = some t → args[j]? = some v → Value.okWide Tryz.prog W .any base t v)
    (hW : DataW.Whole enc Tryz.prog Tryz.f4.params.toList Rows.driftFindsSpec.vars false W args.toList ds gs before) :
    Calls Tryz.prog 4 args W fun e W' => ∃ v, e = .returned v ∧ Rows.driftFindsSpec.post enc Tryz.prog Tryz.f4 false true false false W args v W' := by
  have hW' := hW
  obtain ⟨p, q, hA0, hV, rfl, hfz, hnd⟩ := hW
  have hA : DataW.TrodAll enc Tryz.prog W 0 (fun _ => true) true Tryz.f4.params.toList args.toList ds p := hA0
  rw [Tryz.params4] at hA hval
  obtain ⟨v0, vs0, d0, ds0, p'0, q0, hargs0, hds0, hq0, h0, r0⟩ := trodAll_cons hA
  obtain ⟨v1, vs1, d1, ds1, p'1, q1, hargs1, hds1, hq1, h1, r1⟩ := trodAll_cons r0
  obtain ⟨v2, vs2, d2, ds2, p'2, q2, hargs2, hds2, hq2, h2, r2⟩ := trodAll_cons r1
  obtain ⟨v3, vs3, d3, ds3, p'3, q3, hargs3, hds3, hq3, h3, r3⟩ := trodAll_cons r2
  obtain ⟨v4, vs4, d4, ds4, p'4, q4, hargs4, hds4, hq4, h4, r4⟩ := trodAll_cons r3
  obtain ⟨rfl, rfl, rfl⟩ := trodAll_nil r4
  obtain rfl : args = #[v0, v1, v2, v3, v4] := by cases args; simp_all
  obtain rfl : ds = [d0, d1, d2, d3, d4] := by simp_all
  obtain ⟨a0, rfl, p0⟩ := arg_struct Tryz.underlying29 decSite (hval 0 29 v0 rfl rfl) h0
  obtain ⟨a1, rfl, p1⟩ := arg_struct Tryz.underlying32 decWish (hval 1 32 v1 rfl rfl) h1
  obtain ⟨a2, rfl, p2⟩ := arg_struct Tryz.underlying36 decWorld (hval 2 36 v2 rfl rfl) h2
  obtain ⟨a3, e3, p3⟩ := arg_slice Tryz.underlying37 decSteps (hval 3 37 v3 rfl rfl) h3
  obtain rfl := List.head_eq_of_cons_eq e3
  obtain ⟨a4, rfl, p4⟩ := arg_int Tryz.underlying5 (hval 4 5 v4 rfl rfl) h4
  refine calls_law (lawDriftFinds (Nat.le_refl _) p0 p1.1 p2.1 p3 (by have h := p4; simp [Lit.wf, show IntKind.u8.min = 0 from rfl, show IntKind.u8.max = 255 from rfl] at h; exact h)) fun W' hx => law_post hW' rfl rfl rfl Tryz.underlying4 (fun t ht => ?_) hx
  have hall : Tryz.f4.params.toList.all (fun t => Tryz.prog.readableRec t && decide (t < Tryz.prog.types.size)) = true := by kernel_rfl
  have := List.all_eq_true.1 hall t ht
  simpa using this
set_option maxRecDepth 100000 in
theorem lifted (os : Os) (started : os.Started) (H : Type) (enc : TypeId × Value → H) :
    ReturnsInHanded {} Tryz.checked os 4 .any (Rows.driftFindsSpec.pre6 enc Tryz.prog Tryz.f4 Rows.driftFindsRow.domain false) (Rows.driftFindsSpec.post enc Tryz.prog Tryz.f4 false true false false) := by
  refine returnsInHanded_of_change (C := Tryz.checked) own started (by kernel_rfl) Tryz.func4
    (ChangeSpec.witness6 (enc := enc) (C := Tryz.checked) false ⟨#[], #[.agg #[.slice none 0 0, .slice none 0 0, .slice none 0 0, .slice none 0 0, .int .i64 0, .slice none 0 0, .slice none 0 0], .agg #[.slice none 0 0], .agg #[.slice none 0 0, .slice none 0 0], .slice none 0 0, .int .u8 0], []⟩ 8 (by kernel_rfl) (by kernel_rfl) (by kernel_rfl) (by kernel_rfl)) ?_
  intro W base args ds gs before hval hW _ _
  exact contract H enc W base args ds gs before hval hW
theorem said : Rows.DriftFindsSaid :=
  OpenClaim.holds_of_wide 4 Tryz.f4 rfl rfl rfl rfl rfl rfl rfl ⟨rfl, rfl, rfl, rfl, rfl⟩ rfl rfl rfl rfl rfl (by kernel_rfl) Tryz.func4 (by kernel_rfl)
    (of_decide_eq_true (by kernel_rfl)) (by unfold Func.isWrapper; first | (rw [if_pos (by decide +kernel)]; kernel_rfl) | (rw [if_neg (by decide +kernel)]; exact ⟨rfl, rfl⟩))
    (fun os started H enc _ => lifted os started H enc)
end Go.Proofs.YtmcdgepfhpakiaaGreat.driftFinds
