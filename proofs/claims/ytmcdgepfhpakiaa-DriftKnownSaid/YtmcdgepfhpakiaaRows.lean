/-
  No cell of these rows narrows 'for every input' (looked for: loops, veiled, ifaces, maps, wideKeys, modest, calm, conditions, laid).
  DERIVED. THE GIVEN ROWS OF THIS SEAT. 4 by the template 'for every input the law returns true; each argument reads behind the call as it read before'; 0 by the template 'total and deterministic' (their statements: YtmcdgepfhpakiaaTotals.lean).
  GIVEN WITH THE SEED: the statements are not yours to turn. If you find one false, say at which input.
  Laid BY PROGRAM, IN A SANDBOX (cutbox-rows.mjs): the forced cells as the released guide's own fill.sh prints them over the translation bf0f0636e17ca9e3… (all of the seat's roots in one cut). By AI agents, Wed Nov 11 2026. No macro, syntax, notation, axiom, sorry.
-/
import Derived.Test.YtmcdgepfhpakiaaChecked
import GoSem.Claim
import GoSem.ClaimJoined
import GoSem.ClaimMapViews
import Derived.JoinedTies
import Derived.KernelRfl
namespace Go.Proofs.Ytmcdgepfhpakiaa
/- THE CELL 'sum', in the pinned program and in every row, IS THE sha256 OF THE DUMP (.gsa) THAT YtmcdgepfhpakiaaProg.lean LOADS. Nothing in Lean hashes anything: it is a label: what it is worth is what the hold of that sum in a sandbox is worth. -/
noncomputable def Try.pinned : Pinned := { name := "ytmcdgepfhpakiaa", sum := "bf0f0636e17ca9e3d2d7deffa31a0004fbdf8e84752199553188a5e5f8bbd260", checked := Try.checked }
namespace Rows
def none {H : Type} : Left H := { results := [], args := [] }

/-- 'majordomolaw30.DriftDiffs': WHATEVER THE INPUT: true; the input reads as it did. -/
def driftDiffsSpec : ChangeSpec := { name := "driftDiffs", fn := fun _ => fun
  | [d1, d2] => { results := [.lit (.bool true)], args := [d1, d2] }
  | _ => none }
def driftDiffsRow : OpenClaim := { program := "ytmcdgepfhpakiaa", sum := "bf0f0636e17ca9e3d2d7deffa31a0004fbdf8e84752199553188a5e5f8bbd260", func := "majordomo/majordomolaw30.DriftDiffs", spec := "driftDiffs", inPlace := ["slices.overlaps[majordomo/api.Replica]"], unfollowed := true, recurses := true, apart := false }
def DriftDiffsSaid : Prop := driftDiffsRow.holds Try.pinned (OpenSpec.ofChange driftDiffsSpec)

/-- ITS FALSE NEIGHBOUR: 'it returns false'. Refute it at one input. -/
def driftDiffsWrong : ChangeSpec := { name := "driftDiffs", fn := fun _ => fun
  | [d1, d2] => { results := [.lit (.bool false)], args := [d1, d2] }
  | _ => none }
def DriftDiffsWrongFalsely : Prop := driftDiffsRow.holds Try.pinned (OpenSpec.ofChange driftDiffsWrong)

/-- 'majordomolaw30.DriftShortest': WHATEVER THE INPUT: true; the input reads as it did. -/
def driftShortestSpec : ChangeSpec := { name := "driftShortest", fn := fun _ => fun
  | [d1, d2] => { results := [.lit (.bool true)], args := [d1, d2] }
  | _ => none }
def driftShortestRow : OpenClaim := { program := "ytmcdgepfhpakiaa", sum := "bf0f0636e17ca9e3d2d7deffa31a0004fbdf8e84752199553188a5e5f8bbd260", func := "majordomo/majordomolaw30.DriftShortest", spec := "driftShortest", inPlace := ["slices.overlaps[majordomo/api.Replica]"], unfollowed := true, recurses := true, apart := false }
def DriftShortestSaid : Prop := driftShortestRow.holds Try.pinned (OpenSpec.ofChange driftShortestSpec)

/-- ITS FALSE NEIGHBOUR: 'it returns false'. Refute it at one input. -/
def driftShortestWrong : ChangeSpec := { name := "driftShortest", fn := fun _ => fun
  | [d1, d2] => { results := [.lit (.bool false)], args := [d1, d2] }
  | _ => none }
def DriftShortestWrongFalsely : Prop := driftShortestRow.holds Try.pinned (OpenSpec.ofChange driftShortestWrong)

/-- 'majordomolaw30.DriftLeads': WHATEVER THE INPUT: true; the input reads as it did. -/
def driftLeadsSpec : ChangeSpec := { name := "driftLeads", fn := fun _ => fun
  | [d1, d2] => { results := [.lit (.bool true)], args := [d1, d2] }
  | _ => none }
def driftLeadsRow : OpenClaim := { program := "ytmcdgepfhpakiaa", sum := "bf0f0636e17ca9e3d2d7deffa31a0004fbdf8e84752199553188a5e5f8bbd260", func := "majordomo/majordomolaw30.DriftLeads", spec := "driftLeads", inPlace := ["slices.overlaps[majordomo/api.Replica]"], unfollowed := true, recurses := true, apart := false }
def DriftLeadsSaid : Prop := driftLeadsRow.holds Try.pinned (OpenSpec.ofChange driftLeadsSpec)

/-- ITS FALSE NEIGHBOUR: 'it returns false'. Refute it at one input. -/
def driftLeadsWrong : ChangeSpec := { name := "driftLeads", fn := fun _ => fun
  | [d1, d2] => { results := [.lit (.bool false)], args := [d1, d2] }
  | _ => none }
def DriftLeadsWrongFalsely : Prop := driftLeadsRow.holds Try.pinned (OpenSpec.ofChange driftLeadsWrong)

/-- 'majordomolaw30.DriftKnown': WHATEVER THE INPUT: true; the input reads as it did. -/
def driftKnownSpec : ChangeSpec := { name := "driftKnown", fn := fun _ => fun
  | [] => { results := [.lit (.bool true)], args := [] }
  | _ => none }
def driftKnownRow : OpenClaim := { program := "ytmcdgepfhpakiaa", sum := "bf0f0636e17ca9e3d2d7deffa31a0004fbdf8e84752199553188a5e5f8bbd260", func := "majordomo/majordomolaw30.DriftKnown", spec := "driftKnown", inPlace := ["slices.overlaps[majordomo/api.Replica]"], unfollowed := true, recurses := true, apart := false }
def DriftKnownSaid : Prop := driftKnownRow.holds Try.pinned (OpenSpec.ofChange driftKnownSpec)

/-- ITS FALSE NEIGHBOUR: 'it returns false'. Refute it at one input. -/
def driftKnownWrong : ChangeSpec := { name := "driftKnown", fn := fun _ => fun
  | [] => { results := [.lit (.bool false)], args := [] }
  | _ => none }
def DriftKnownWrongFalsely : Prop := driftKnownRow.holds Try.pinned (OpenSpec.ofChange driftKnownWrong)

/- THE SECOND FORM. 'bulk': how many values and letters a reading holds, each counted each time it is reached (what is shared counts as often as it is met; a slice's spare places count too). A statement '..UptoSaid' is the law's where the arguments, and the package variables that the reading takes, are together of bulk at most 1048576: NARROWER than '..Said'. Prove '..Said' where nothing that the law and all that it calls make is longer than what came in: it says more and counts as full. Else prove '..UptoSaid'. A law counts once. -/
mutual
def uptoBulk {H : Type} : DataW H → Nat
  | .lit (.string bytes) => bytes.length + 1
  | .lit _ => 1
  | .nil => 1
  | .ptr d => uptoBulk d + 1
  | .slice elems spare => uptoBulkAll elems + uptoBulkAll spare + 1
  | .agg parts => uptoBulkAll parts + 1
  | .iface _ d => uptoBulk d + 1
  | .map entries => uptoBulkEntries entries + 1
  | .held _ => 1
def uptoBulkAll {H : Type} : List (DataW H) → Nat
  | [] => 0
  | d :: r => uptoBulk d + uptoBulkAll r
def uptoBulkEntries {H : Type} : List (Lit × DataW H) → Nat
  | [] => 0
  | x :: r => uptoBulkEntry x + uptoBulkEntries r
def uptoBulkEntry {H : Type} : Lit × DataW H → Nat
  | (.string bytes, d) => bytes.length + uptoBulk d + 1
  | (_, d) => uptoBulk d + 1
 end
def uptoSmall : (H : Type) → List (DataW H) → Bool := fun _ ds => decide (uptoBulkAll ds ≤ 1048576)
def OpenSpec.upto (s : _root_.Go.ChangeSpec) : _root_.Go.OpenSpec := { _root_.Go.OpenSpec.ofChange s with cond := some uptoSmall }

/-- 'majordomolaw30.DriftDiffs', WHERE WHAT IT READS IS OF BULK AT MOST 1048576: true; the input reads as it did. -/
def driftDiffsUptoRow : OpenClaim := { program := "ytmcdgepfhpakiaa", sum := "bf0f0636e17ca9e3d2d7deffa31a0004fbdf8e84752199553188a5e5f8bbd260", func := "majordomo/majordomolaw30.DriftDiffs", spec := "driftDiffs", inPlace := ["slices.overlaps[majordomo/api.Replica]"], unfollowed := true, recurses := true, apart := false, narrowed := true }
def DriftDiffsUptoSaid : Prop := driftDiffsUptoRow.holds Try.pinned (OpenSpec.upto driftDiffsSpec)

/-- 'majordomolaw30.DriftShortest', WHERE WHAT IT READS IS OF BULK AT MOST 1048576: true; the input reads as it did. -/
def driftShortestUptoRow : OpenClaim := { program := "ytmcdgepfhpakiaa", sum := "bf0f0636e17ca9e3d2d7deffa31a0004fbdf8e84752199553188a5e5f8bbd260", func := "majordomo/majordomolaw30.DriftShortest", spec := "driftShortest", inPlace := ["slices.overlaps[majordomo/api.Replica]"], unfollowed := true, recurses := true, apart := false, narrowed := true }
def DriftShortestUptoSaid : Prop := driftShortestUptoRow.holds Try.pinned (OpenSpec.upto driftShortestSpec)

/-- 'majordomolaw30.DriftLeads', WHERE WHAT IT READS IS OF BULK AT MOST 1048576: true; the input reads as it did. -/
def driftLeadsUptoRow : OpenClaim := { program := "ytmcdgepfhpakiaa", sum := "bf0f0636e17ca9e3d2d7deffa31a0004fbdf8e84752199553188a5e5f8bbd260", func := "majordomo/majordomolaw30.DriftLeads", spec := "driftLeads", inPlace := ["slices.overlaps[majordomo/api.Replica]"], unfollowed := true, recurses := true, apart := false, narrowed := true }
def DriftLeadsUptoSaid : Prop := driftLeadsUptoRow.holds Try.pinned (OpenSpec.upto driftLeadsSpec)

/-- 'majordomolaw30.DriftKnown', WHERE WHAT IT READS IS OF BULK AT MOST 1048576: true; the input reads as it did. -/
def driftKnownUptoRow : OpenClaim := { program := "ytmcdgepfhpakiaa", sum := "bf0f0636e17ca9e3d2d7deffa31a0004fbdf8e84752199553188a5e5f8bbd260", func := "majordomo/majordomolaw30.DriftKnown", spec := "driftKnown", inPlace := ["slices.overlaps[majordomo/api.Replica]"], unfollowed := true, recurses := true, apart := false, narrowed := true }
def DriftKnownUptoSaid : Prop := driftKnownUptoRow.holds Try.pinned (OpenSpec.upto driftKnownSpec)

end Rows
end Go.Proofs.Ytmcdgepfhpakiaa
