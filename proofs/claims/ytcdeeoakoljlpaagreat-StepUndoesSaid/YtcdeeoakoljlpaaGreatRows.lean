/-
  No cell of these rows narrows 'for every input' (looked for: loops, veiled, ifaces, maps, wideKeys, modest, calm, conditions, laid).
  DERIVED. THE GIVEN ROWS OF THIS SEAT. 3 by the template 'for every input the law returns true; each argument reads behind the call as it read before'; 0 by the template 'total and deterministic' (their statements: YtcdeeoakoljlpaaGreatTotals.lean).
  GIVEN WITH THE SEED: the statements are not yours to turn. If you find one false, say at which input.
  Laid BY PROGRAM, IN A SANDBOX (cutbox-rows.mjs): the forced cells as the released guide's own fill.sh prints them over the translation e50f7f6bb26978ce… (all of the seat's roots in one cut). By AI agents, Wed Nov 11 2026. No macro, syntax, notation, axiom, sorry.
-/
import Derived.Test.YtcdeeoakoljlpaaGreatChecked
import GoSem.Claim
import GoSem.ClaimJoined
import GoSem.ClaimMapViews
import Derived.JoinedTies
import Derived.KernelRfl
namespace Go.Proofs.YtcdeeoakoljlpaaGreat
/- THE CELL 'sum', in the pinned program and in every row, IS THE sha256 OF THE DUMP (.gsa) THAT YtcdeeoakoljlpaaGreatProg.lean LOADS. Nothing in Lean hashes anything: it is a label: what it is worth is what the hold of that sum in a sandbox is worth. -/
noncomputable def Tryz.pinned : Pinned := { name := "ytcdeeoakoljlpaagreat", sum := "e50f7f6bb26978ce2b387ce01fcb1fac2066ebb43e9145dd2052c08e464ee87d", checked := Tryz.checked }
namespace Rows
def none {H : Type} : Left H := { results := [], args := [] }

/-- 'majordomolaw19.StepReady': WHATEVER THE INPUT: true; the input reads as it did. -/
def stepReadySpec : ChangeSpec := { name := "stepReady", fn := fun _ => fun
  | [d1, d2, d3, d4] => { results := [.lit (.bool true)], args := [d1, d2, d3, d4] }
  | _ => none }
def stepReadyRow : OpenClaim := { program := "ytcdeeoakoljlpaagreat", sum := "e50f7f6bb26978ce2b387ce01fcb1fac2066ebb43e9145dd2052c08e464ee87d", func := "majordomo/majordomolaw19.StepReady", spec := "stepReady", inPlace := ["slices.overlaps[majordomo/api.Replica]"], unfollowed := true, recurses := true, apart := false }
def StepReadySaid : Prop := stepReadyRow.holds Tryz.pinned (OpenSpec.ofChange stepReadySpec)

/-- ITS FALSE NEIGHBOUR: 'it returns false'. Refute it at one input. -/
def stepReadyWrong : ChangeSpec := { name := "stepReady", fn := fun _ => fun
  | [d1, d2, d3, d4] => { results := [.lit (.bool false)], args := [d1, d2, d3, d4] }
  | _ => none }
def StepReadyWrongFalsely : Prop := stepReadyRow.holds Tryz.pinned (OpenSpec.ofChange stepReadyWrong)

/-- 'majordomolaw19.StepApplies': WHATEVER THE INPUT: true; the input reads as it did. -/
def stepAppliesSpec : ChangeSpec := { name := "stepApplies", fn := fun _ => fun
  | [d1, d2, d3, d4] => { results := [.lit (.bool true)], args := [d1, d2, d3, d4] }
  | _ => none }
def stepAppliesRow : OpenClaim := { program := "ytcdeeoakoljlpaagreat", sum := "e50f7f6bb26978ce2b387ce01fcb1fac2066ebb43e9145dd2052c08e464ee87d", func := "majordomo/majordomolaw19.StepApplies", spec := "stepApplies", inPlace := ["slices.overlaps[majordomo/api.Replica]"], unfollowed := true, recurses := true, apart := false }
def StepAppliesSaid : Prop := stepAppliesRow.holds Tryz.pinned (OpenSpec.ofChange stepAppliesSpec)

/-- ITS FALSE NEIGHBOUR: 'it returns false'. Refute it at one input. -/
def stepAppliesWrong : ChangeSpec := { name := "stepApplies", fn := fun _ => fun
  | [d1, d2, d3, d4] => { results := [.lit (.bool false)], args := [d1, d2, d3, d4] }
  | _ => none }
def StepAppliesWrongFalsely : Prop := stepAppliesRow.holds Tryz.pinned (OpenSpec.ofChange stepAppliesWrong)

/-- 'majordomolaw19.StepUndoes': WHATEVER THE INPUT: true; the input reads as it did. -/
def stepUndoesSpec : ChangeSpec := { name := "stepUndoes", fn := fun _ => fun
  | [d1, d2, d3, d4] => { results := [.lit (.bool true)], args := [d1, d2, d3, d4] }
  | _ => none }
def stepUndoesRow : OpenClaim := { program := "ytcdeeoakoljlpaagreat", sum := "e50f7f6bb26978ce2b387ce01fcb1fac2066ebb43e9145dd2052c08e464ee87d", func := "majordomo/majordomolaw19.StepUndoes", spec := "stepUndoes", inPlace := ["slices.overlaps[majordomo/api.Replica]"], unfollowed := true, recurses := true, apart := false }
def StepUndoesSaid : Prop := stepUndoesRow.holds Tryz.pinned (OpenSpec.ofChange stepUndoesSpec)

/-- ITS FALSE NEIGHBOUR: 'it returns false'. Refute it at one input. -/
def stepUndoesWrong : ChangeSpec := { name := "stepUndoes", fn := fun _ => fun
  | [d1, d2, d3, d4] => { results := [.lit (.bool false)], args := [d1, d2, d3, d4] }
  | _ => none }
def StepUndoesWrongFalsely : Prop := stepUndoesRow.holds Tryz.pinned (OpenSpec.ofChange stepUndoesWrong)

/- THE SECOND FORM. 'bulk': how many values and letters a reading holds, each counted each time it is reached (what is shared counts as often as it is met; a slice's spare places count too). A statement '..UptoSaid' is the law's where the arguments, and the package variables that the reading takes, are together of bulk at most 1048576: NARROWER than '..Said'. Prove '..Said' where nothing that the law and all that it calls make is longer than what came in: it says more and counts as full. Else prove '..UptoSaid'. A law counts once. -/
mutual
def uptoBulk {H : Type} : DataW H → Nat
  | .lit (.string bytes) => bytes.length + 1
  | .lit _ => 1
  | .nil => 1
  | .ptr d => uptoBulk d + 1
  | .slice elems spare => uptoBulkAll elems + uptoBulkAll spare + 1
  | .agg parts => uptoBulkAll parts + 1
  | .iface _ d => uptoBulk d + 1
  | .map entries => uptoBulkEntries entries + 1
  | .held _ => 1
def uptoBulkAll {H : Type} : List (DataW H) → Nat
  | [] => 0
  | d :: r => uptoBulk d + uptoBulkAll r
def uptoBulkEntries {H : Type} : List (Lit × DataW H) → Nat
  | [] => 0
  | x :: r => uptoBulkEntry x + uptoBulkEntries r
def uptoBulkEntry {H : Type} : Lit × DataW H → Nat
  | (.string bytes, d) => bytes.length + uptoBulk d + 1
  | (_, d) => uptoBulk d + 1
 end
def uptoSmall : (H : Type) → List (DataW H) → Bool := fun _ ds => decide (uptoBulkAll ds ≤ 1048576)
def OpenSpec.upto (s : _root_.Go.ChangeSpec) : _root_.Go.OpenSpec := { _root_.Go.OpenSpec.ofChange s with cond := some uptoSmall }

/-- 'majordomolaw19.StepReady', WHERE WHAT IT READS IS OF BULK AT MOST 1048576: true; the input reads as it did. -/
def stepReadyUptoRow : OpenClaim := { program := "ytcdeeoakoljlpaagreat", sum := "e50f7f6bb26978ce2b387ce01fcb1fac2066ebb43e9145dd2052c08e464ee87d", func := "majordomo/majordomolaw19.StepReady", spec := "stepReady", inPlace := ["slices.overlaps[majordomo/api.Replica]"], unfollowed := true, recurses := true, apart := false, narrowed := true }
def StepReadyUptoSaid : Prop := stepReadyUptoRow.holds Tryz.pinned (OpenSpec.upto stepReadySpec)

/-- 'majordomolaw19.StepApplies', WHERE WHAT IT READS IS OF BULK AT MOST 1048576: true; the input reads as it did. -/
def stepAppliesUptoRow : OpenClaim := { program := "ytcdeeoakoljlpaagreat", sum := "e50f7f6bb26978ce2b387ce01fcb1fac2066ebb43e9145dd2052c08e464ee87d", func := "majordomo/majordomolaw19.StepApplies", spec := "stepApplies", inPlace := ["slices.overlaps[majordomo/api.Replica]"], unfollowed := true, recurses := true, apart := false, narrowed := true }
def StepAppliesUptoSaid : Prop := stepAppliesUptoRow.holds Tryz.pinned (OpenSpec.upto stepAppliesSpec)

/-- 'majordomolaw19.StepUndoes', WHERE WHAT IT READS IS OF BULK AT MOST 1048576: true; the input reads as it did. -/
def stepUndoesUptoRow : OpenClaim := { program := "ytcdeeoakoljlpaagreat", sum := "e50f7f6bb26978ce2b387ce01fcb1fac2066ebb43e9145dd2052c08e464ee87d", func := "majordomo/majordomolaw19.StepUndoes", spec := "stepUndoes", inPlace := ["slices.overlaps[majordomo/api.Replica]"], unfollowed := true, recurses := true, apart := false, narrowed := true }
def StepUndoesUptoSaid : Prop := stepUndoesUptoRow.holds Tryz.pinned (OpenSpec.upto stepUndoesSpec)

end Rows
end Go.Proofs.YtcdeeoakoljlpaaGreat
