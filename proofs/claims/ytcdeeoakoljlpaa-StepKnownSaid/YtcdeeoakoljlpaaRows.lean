/-
  No cell of these rows narrows 'for every input' (looked for: loops, veiled, ifaces, maps, wideKeys, modest, calm, conditions, laid).
  DERIVED. THE GIVEN ROWS OF THIS SEAT. 3 by the template 'for every input the law returns true; each argument reads behind the call as it read before'; 0 by the template 'total and deterministic' (their statements: YtcdeeoakoljlpaaTotals.lean).
  GIVEN WITH THE SEED: the statements are not yours to turn. If you find one false, say at which input.
  Laid BY PROGRAM, IN A SANDBOX (cutbox-rows.mjs): the forced cells as the released guide's own fill.sh prints them over the translation c34d55b7f8fc0d2a… (all of the seat's roots in one cut). By AI agents, Wed Nov 11 2026. No macro, syntax, notation, axiom, sorry.
-/
import Derived.Test.YtcdeeoakoljlpaaChecked
import GoSem.Claim
import GoSem.ClaimJoined
import GoSem.ClaimMapViews
import Derived.JoinedTies
import Derived.KernelRfl
namespace Go.Proofs.Ytcdeeoakoljlpaa
/- THE CELL 'sum', in the pinned program and in every row, IS THE sha256 OF THE DUMP (.gsa) THAT YtcdeeoakoljlpaaProg.lean LOADS. Nothing in Lean hashes anything: it is a label: what it is worth is what the hold of that sum in a sandbox is worth. -/
noncomputable def Try.pinned : Pinned := { name := "ytcdeeoakoljlpaa", sum := "c34d55b7f8fc0d2a6220b7e6ee513bbd4bef243baef76ef7ceedf607f6db2a9c", checked := Try.checked }
namespace Rows
def none {H : Type} : Left H := { results := [], args := [] }

/-- 'majordomolaw19.StepCommutes': WHATEVER THE INPUT: true; the input reads as it did. -/
def stepCommutesSpec : ChangeSpec := { name := "stepCommutes", fn := fun _ => fun
  | [d1, d2, d3, d4, d5] => { results := [.lit (.bool true)], args := [d1, d2, d3, d4, d5] }
  | _ => none }
def stepCommutesRow : OpenClaim := { program := "ytcdeeoakoljlpaa", sum := "c34d55b7f8fc0d2a6220b7e6ee513bbd4bef243baef76ef7ceedf607f6db2a9c", func := "majordomo/majordomolaw19.StepCommutes", spec := "stepCommutes", inPlace := ["slices.overlaps[majordomo/api.Replica]"], unfollowed := true, recurses := true, apart := false }
def StepCommutesSaid : Prop := stepCommutesRow.holds Try.pinned (OpenSpec.ofChange stepCommutesSpec)

/-- ITS FALSE NEIGHBOUR: 'it returns false'. Refute it at one input. -/
def stepCommutesWrong : ChangeSpec := { name := "stepCommutes", fn := fun _ => fun
  | [d1, d2, d3, d4, d5] => { results := [.lit (.bool false)], args := [d1, d2, d3, d4, d5] }
  | _ => none }
def StepCommutesWrongFalsely : Prop := stepCommutesRow.holds Try.pinned (OpenSpec.ofChange stepCommutesWrong)

/-- 'majordomolaw19.StepTouches': WHATEVER THE INPUT: true; the input reads as it did. -/
def stepTouchesSpec : ChangeSpec := { name := "stepTouches", fn := fun _ => fun
  | [d1, d2, d3, d4] => { results := [.lit (.bool true)], args := [d1, d2, d3, d4] }
  | _ => none }
def stepTouchesRow : OpenClaim := { program := "ytcdeeoakoljlpaa", sum := "c34d55b7f8fc0d2a6220b7e6ee513bbd4bef243baef76ef7ceedf607f6db2a9c", func := "majordomo/majordomolaw19.StepTouches", spec := "stepTouches", inPlace := ["slices.overlaps[majordomo/api.Replica]"], unfollowed := true, recurses := true, apart := false }
def StepTouchesSaid : Prop := stepTouchesRow.holds Try.pinned (OpenSpec.ofChange stepTouchesSpec)

/-- ITS FALSE NEIGHBOUR: 'it returns false'. Refute it at one input. -/
def stepTouchesWrong : ChangeSpec := { name := "stepTouches", fn := fun _ => fun
  | [d1, d2, d3, d4] => { results := [.lit (.bool false)], args := [d1, d2, d3, d4] }
  | _ => none }
def StepTouchesWrongFalsely : Prop := stepTouchesRow.holds Try.pinned (OpenSpec.ofChange stepTouchesWrong)

/-- 'majordomolaw19.StepKnown': WHATEVER THE INPUT: true; the input reads as it did. -/
def stepKnownSpec : ChangeSpec := { name := "stepKnown", fn := fun _ => fun
  | [] => { results := [.lit (.bool true)], args := [] }
  | _ => none }
def stepKnownRow : OpenClaim := { program := "ytcdeeoakoljlpaa", sum := "c34d55b7f8fc0d2a6220b7e6ee513bbd4bef243baef76ef7ceedf607f6db2a9c", func := "majordomo/majordomolaw19.StepKnown", spec := "stepKnown", inPlace := ["slices.overlaps[majordomo/api.Replica]"], unfollowed := true, recurses := true, apart := false }
def StepKnownSaid : Prop := stepKnownRow.holds Try.pinned (OpenSpec.ofChange stepKnownSpec)

/-- ITS FALSE NEIGHBOUR: 'it returns false'. Refute it at one input. -/
def stepKnownWrong : ChangeSpec := { name := "stepKnown", fn := fun _ => fun
  | [] => { results := [.lit (.bool false)], args := [] }
  | _ => none }
def StepKnownWrongFalsely : Prop := stepKnownRow.holds Try.pinned (OpenSpec.ofChange stepKnownWrong)

/- THE SECOND FORM. 'bulk': how many values and letters a reading holds, each counted each time it is reached (what is shared counts as often as it is met; a slice's spare places count too). A statement '..UptoSaid' is the law's where the arguments, and the package variables that the reading takes, are together of bulk at most 1048576: NARROWER than '..Said'. Prove '..Said' where nothing that the law and all that it calls make is longer than what came in: it says more and counts as full. Else prove '..UptoSaid'. A law counts once. -/
mutual
def uptoBulk {H : Type} : DataW H → Nat
  | .lit (.string bytes) => bytes.length + 1
  | .lit _ => 1
  | .nil => 1
  | .ptr d => uptoBulk d + 1
  | .slice elems spare => uptoBulkAll elems + uptoBulkAll spare + 1
  | .agg parts => uptoBulkAll parts + 1
  | .iface _ d => uptoBulk d + 1
  | .map entries => uptoBulkEntries entries + 1
  | .held _ => 1
def uptoBulkAll {H : Type} : List (DataW H) → Nat
  | [] => 0
  | d :: r => uptoBulk d + uptoBulkAll r
def uptoBulkEntries {H : Type} : List (Lit × DataW H) → Nat
  | [] => 0
  | x :: r => uptoBulkEntry x + uptoBulkEntries r
def uptoBulkEntry {H : Type} : Lit × DataW H → Nat
  | (.string bytes, d) => bytes.length + uptoBulk d + 1
  | (_, d) => uptoBulk d + 1
 end
def uptoSmall : (H : Type) → List (DataW H) → Bool := fun _ ds => decide (uptoBulkAll ds ≤ 1048576)
def OpenSpec.upto (s : _root_.Go.ChangeSpec) : _root_.Go.OpenSpec := { _root_.Go.OpenSpec.ofChange s with cond := some uptoSmall }

/-- 'majordomolaw19.StepCommutes', WHERE WHAT IT READS IS OF BULK AT MOST 1048576: true; the input reads as it did. -/
def stepCommutesUptoRow : OpenClaim := { program := "ytcdeeoakoljlpaa", sum := "c34d55b7f8fc0d2a6220b7e6ee513bbd4bef243baef76ef7ceedf607f6db2a9c", func := "majordomo/majordomolaw19.StepCommutes", spec := "stepCommutes", inPlace := ["slices.overlaps[majordomo/api.Replica]"], unfollowed := true, recurses := true, apart := false, narrowed := true }
def StepCommutesUptoSaid : Prop := stepCommutesUptoRow.holds Try.pinned (OpenSpec.upto stepCommutesSpec)

/-- 'majordomolaw19.StepTouches', WHERE WHAT IT READS IS OF BULK AT MOST 1048576: true; the input reads as it did. -/
def stepTouchesUptoRow : OpenClaim := { program := "ytcdeeoakoljlpaa", sum := "c34d55b7f8fc0d2a6220b7e6ee513bbd4bef243baef76ef7ceedf607f6db2a9c", func := "majordomo/majordomolaw19.StepTouches", spec := "stepTouches", inPlace := ["slices.overlaps[majordomo/api.Replica]"], unfollowed := true, recurses := true, apart := false, narrowed := true }
def StepTouchesUptoSaid : Prop := stepTouchesUptoRow.holds Try.pinned (OpenSpec.upto stepTouchesSpec)

/-- 'majordomolaw19.StepKnown', WHERE WHAT IT READS IS OF BULK AT MOST 1048576: true; the input reads as it did. -/
def stepKnownUptoRow : OpenClaim := { program := "ytcdeeoakoljlpaa", sum := "c34d55b7f8fc0d2a6220b7e6ee513bbd4bef243baef76ef7ceedf607f6db2a9c", func := "majordomo/majordomolaw19.StepKnown", spec := "stepKnown", inPlace := ["slices.overlaps[majordomo/api.Replica]"], unfollowed := true, recurses := true, apart := false, narrowed := true }
def StepKnownUptoSaid : Prop := stepKnownUptoRow.holds Try.pinned (OpenSpec.upto stepKnownSpec)

end Rows
end Go.Proofs.Ytcdeeoakoljlpaa
