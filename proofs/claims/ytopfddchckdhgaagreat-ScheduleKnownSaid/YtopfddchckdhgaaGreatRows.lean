/-
  No cell of these rows narrows 'for every input' (looked for: loops, veiled, ifaces, maps, wideKeys, modest, calm, conditions, laid).
  DERIVED. THE GIVEN ROWS OF THIS SEAT. 6 by the template 'for every input the law returns true; each argument reads behind the call as it read before'; 0 by the template 'total and deterministic' (their statements: YtopfddchckdhgaaGreatTotals.lean).
  GIVEN WITH THE SEED: the statements are not yours to turn. If you find one false, say at which input.
  Laid BY PROGRAM, IN A SANDBOX (cutbox-rows.mjs): the forced cells as the released guide's own fill.sh prints them over the translation d803cbda1e325d6f… (all of the seat's roots in one cut). By AI agents, Wed Nov 11 2026. No macro, syntax, notation, axiom, sorry.
-/
import Derived.Test.YtopfddchckdhgaaGreatChecked
import GoSem.Claim
import GoSem.ClaimJoined
import GoSem.ClaimMapViews
import Derived.JoinedTies
import Derived.KernelRfl
namespace Go.Proofs.YtopfddchckdhgaaGreat
/- THE CELL 'sum', in the pinned program and in every row, IS THE sha256 OF THE DUMP (.gsa) THAT YtopfddchckdhgaaGreatProg.lean LOADS. Nothing in Lean hashes anything: it is a label: what it is worth is what the hold of that sum in a sandbox is worth. -/
noncomputable def Tryz.pinned : Pinned := { name := "ytopfddchckdhgaagreat", sum := "d803cbda1e325d6fac8b03d8ed509b1a0c5ae8543f0d1f56a4f509db4d0f5ffe", checked := Tryz.checked }
namespace Rows
def none {H : Type} : Left H := { results := [], args := [] }

/-- 'majordomolaw23.ScheduleMakes': WHATEVER THE INPUT: true; the input reads as it did. -/
def scheduleMakesSpec : ChangeSpec := { name := "scheduleMakes", fn := fun _ => fun
  | [d1, d2, d3] => { results := [.lit (.bool true)], args := [d1, d2, d3] }
  | _ => none }
def scheduleMakesRow : OpenClaim := { program := "ytopfddchckdhgaagreat", sum := "d803cbda1e325d6fac8b03d8ed509b1a0c5ae8543f0d1f56a4f509db4d0f5ffe", func := "majordomo/majordomolaw23.ScheduleMakes", spec := "scheduleMakes", unfollowed := true, recurses := true, apart := false }
def ScheduleMakesSaid : Prop := scheduleMakesRow.holds Tryz.pinned (OpenSpec.ofChange scheduleMakesSpec)

/-- ITS FALSE NEIGHBOUR: 'it returns false'. Refute it at one input. -/
def scheduleMakesWrong : ChangeSpec := { name := "scheduleMakes", fn := fun _ => fun
  | [d1, d2, d3] => { results := [.lit (.bool false)], args := [d1, d2, d3] }
  | _ => none }
def ScheduleMakesWrongFalsely : Prop := scheduleMakesRow.holds Tryz.pinned (OpenSpec.ofChange scheduleMakesWrong)

/-- 'majordomolaw23.ScheduleAllowed': WHATEVER THE INPUT: true; the input reads as it did. -/
def scheduleAllowedSpec : ChangeSpec := { name := "scheduleAllowed", fn := fun _ => fun
  | [d] => { results := [.lit (.bool true)], args := [d] }
  | _ => none }
def scheduleAllowedRow : OpenClaim := { program := "ytopfddchckdhgaagreat", sum := "d803cbda1e325d6fac8b03d8ed509b1a0c5ae8543f0d1f56a4f509db4d0f5ffe", func := "majordomo/majordomolaw23.ScheduleAllowed", spec := "scheduleAllowed", unfollowed := true, recurses := true, apart := false }
def ScheduleAllowedSaid : Prop := scheduleAllowedRow.holds Tryz.pinned (OpenSpec.ofChange scheduleAllowedSpec)

/-- ITS FALSE NEIGHBOUR: 'it returns false'. Refute it at one input. -/
def scheduleAllowedWrong : ChangeSpec := { name := "scheduleAllowed", fn := fun _ => fun
  | [d] => { results := [.lit (.bool false)], args := [d] }
  | _ => none }
def ScheduleAllowedWrongFalsely : Prop := scheduleAllowedRow.holds Tryz.pinned (OpenSpec.ofChange scheduleAllowedWrong)

/-- 'majordomolaw23.ScheduleIdeals': WHATEVER THE INPUT: true; the input reads as it did. -/
def scheduleIdealsSpec : ChangeSpec := { name := "scheduleIdeals", fn := fun _ => fun
  | [d1, d2] => { results := [.lit (.bool true)], args := [d1, d2] }
  | _ => none }
def scheduleIdealsRow : OpenClaim := { program := "ytopfddchckdhgaagreat", sum := "d803cbda1e325d6fac8b03d8ed509b1a0c5ae8543f0d1f56a4f509db4d0f5ffe", func := "majordomo/majordomolaw23.ScheduleIdeals", spec := "scheduleIdeals", unfollowed := true, recurses := true, apart := false }
def ScheduleIdealsSaid : Prop := scheduleIdealsRow.holds Tryz.pinned (OpenSpec.ofChange scheduleIdealsSpec)

/-- ITS FALSE NEIGHBOUR: 'it returns false'. Refute it at one input. -/
def scheduleIdealsWrong : ChangeSpec := { name := "scheduleIdeals", fn := fun _ => fun
  | [d1, d2] => { results := [.lit (.bool false)], args := [d1, d2] }
  | _ => none }
def ScheduleIdealsWrongFalsely : Prop := scheduleIdealsRow.holds Tryz.pinned (OpenSpec.ofChange scheduleIdealsWrong)

/-- 'majordomolaw23.ScheduleFirst': WHATEVER THE INPUT: true; the input reads as it did. -/
def scheduleFirstSpec : ChangeSpec := { name := "scheduleFirst", fn := fun _ => fun
  | [d1, d2, d3] => { results := [.lit (.bool true)], args := [d1, d2, d3] }
  | _ => none }
def scheduleFirstRow : OpenClaim := { program := "ytopfddchckdhgaagreat", sum := "d803cbda1e325d6fac8b03d8ed509b1a0c5ae8543f0d1f56a4f509db4d0f5ffe", func := "majordomo/majordomolaw23.ScheduleFirst", spec := "scheduleFirst", unfollowed := true, recurses := true, apart := false }
def ScheduleFirstSaid : Prop := scheduleFirstRow.holds Tryz.pinned (OpenSpec.ofChange scheduleFirstSpec)

/-- ITS FALSE NEIGHBOUR: 'it returns false'. Refute it at one input. -/
def scheduleFirstWrong : ChangeSpec := { name := "scheduleFirst", fn := fun _ => fun
  | [d1, d2, d3] => { results := [.lit (.bool false)], args := [d1, d2, d3] }
  | _ => none }
def ScheduleFirstWrongFalsely : Prop := scheduleFirstRow.holds Tryz.pinned (OpenSpec.ofChange scheduleFirstWrong)

/-- 'majordomolaw23.ScheduleMore': WHATEVER THE INPUT: true; the input reads as it did. -/
def scheduleMoreSpec : ChangeSpec := { name := "scheduleMore", fn := fun _ => fun
  | [d] => { results := [.lit (.bool true)], args := [d] }
  | _ => none }
def scheduleMoreRow : OpenClaim := { program := "ytopfddchckdhgaagreat", sum := "d803cbda1e325d6fac8b03d8ed509b1a0c5ae8543f0d1f56a4f509db4d0f5ffe", func := "majordomo/majordomolaw23.ScheduleMore", spec := "scheduleMore", unfollowed := true, recurses := true, apart := false }
def ScheduleMoreSaid : Prop := scheduleMoreRow.holds Tryz.pinned (OpenSpec.ofChange scheduleMoreSpec)

/-- ITS FALSE NEIGHBOUR: 'it returns false'. Refute it at one input. -/
def scheduleMoreWrong : ChangeSpec := { name := "scheduleMore", fn := fun _ => fun
  | [d] => { results := [.lit (.bool false)], args := [d] }
  | _ => none }
def ScheduleMoreWrongFalsely : Prop := scheduleMoreRow.holds Tryz.pinned (OpenSpec.ofChange scheduleMoreWrong)

/-- 'majordomolaw23.ScheduleKnown': WHATEVER THE INPUT: true; the input reads as it did. -/
def scheduleKnownSpec : ChangeSpec := { name := "scheduleKnown", fn := fun _ => fun
  | [] => { results := [.lit (.bool true)], args := [] }
  | _ => none }
def scheduleKnownRow : OpenClaim := { program := "ytopfddchckdhgaagreat", sum := "d803cbda1e325d6fac8b03d8ed509b1a0c5ae8543f0d1f56a4f509db4d0f5ffe", func := "majordomo/majordomolaw23.ScheduleKnown", spec := "scheduleKnown", unfollowed := true, recurses := true, apart := false }
def ScheduleKnownSaid : Prop := scheduleKnownRow.holds Tryz.pinned (OpenSpec.ofChange scheduleKnownSpec)

/-- ITS FALSE NEIGHBOUR: 'it returns false'. Refute it at one input. -/
def scheduleKnownWrong : ChangeSpec := { name := "scheduleKnown", fn := fun _ => fun
  | [] => { results := [.lit (.bool false)], args := [] }
  | _ => none }
def ScheduleKnownWrongFalsely : Prop := scheduleKnownRow.holds Tryz.pinned (OpenSpec.ofChange scheduleKnownWrong)

/- THE SECOND FORM. 'bulk': how many values and letters a reading holds, each counted each time it is reached (what is shared counts as often as it is met; a slice's spare places count too). A statement '..UptoSaid' is the law's where the arguments, and the package variables that the reading takes, are together of bulk at most 1048576: NARROWER than '..Said'. Prove '..Said' where nothing that the law and all that it calls make is longer than what came in: it says more and counts as full. Else prove '..UptoSaid'. A law counts once. -/
mutual
def uptoBulk {H : Type} : DataW H → Nat
  | .lit (.string bytes) => bytes.length + 1
  | .lit _ => 1
  | .nil => 1
  | .ptr d => uptoBulk d + 1
  | .slice elems spare => uptoBulkAll elems + uptoBulkAll spare + 1
  | .agg parts => uptoBulkAll parts + 1
  | .iface _ d => uptoBulk d + 1
  | .map entries => uptoBulkEntries entries + 1
  | .held _ => 1
def uptoBulkAll {H : Type} : List (DataW H) → Nat
  | [] => 0
  | d :: r => uptoBulk d + uptoBulkAll r
def uptoBulkEntries {H : Type} : List (Lit × DataW H) → Nat
  | [] => 0
  | x :: r => uptoBulkEntry x + uptoBulkEntries r
def uptoBulkEntry {H : Type} : Lit × DataW H → Nat
  | (.string bytes, d) => bytes.length + uptoBulk d + 1
  | (_, d) => uptoBulk d + 1
 end
def uptoSmall : (H : Type) → List (DataW H) → Bool := fun _ ds => decide (uptoBulkAll ds ≤ 1048576)
def OpenSpec.upto (s : _root_.Go.ChangeSpec) : _root_.Go.OpenSpec := { _root_.Go.OpenSpec.ofChange s with cond := some uptoSmall }

/-- 'majordomolaw23.ScheduleMakes', WHERE WHAT IT READS IS OF BULK AT MOST 1048576: true; the input reads as it did. -/
def scheduleMakesUptoRow : OpenClaim := { program := "ytopfddchckdhgaagreat", sum := "d803cbda1e325d6fac8b03d8ed509b1a0c5ae8543f0d1f56a4f509db4d0f5ffe", func := "majordomo/majordomolaw23.ScheduleMakes", spec := "scheduleMakes", unfollowed := true, recurses := true, apart := false, narrowed := true }
def ScheduleMakesUptoSaid : Prop := scheduleMakesUptoRow.holds Tryz.pinned (OpenSpec.upto scheduleMakesSpec)

/-- 'majordomolaw23.ScheduleAllowed', WHERE WHAT IT READS IS OF BULK AT MOST 1048576: true; the input reads as it did. -/
def scheduleAllowedUptoRow : OpenClaim := { program := "ytopfddchckdhgaagreat", sum := "d803cbda1e325d6fac8b03d8ed509b1a0c5ae8543f0d1f56a4f509db4d0f5ffe", func := "majordomo/majordomolaw23.ScheduleAllowed", spec := "scheduleAllowed", unfollowed := true, recurses := true, apart := false, narrowed := true }
def ScheduleAllowedUptoSaid : Prop := scheduleAllowedUptoRow.holds Tryz.pinned (OpenSpec.upto scheduleAllowedSpec)

/-- 'majordomolaw23.ScheduleIdeals', WHERE WHAT IT READS IS OF BULK AT MOST 1048576: true; the input reads as it did. -/
def scheduleIdealsUptoRow : OpenClaim := { program := "ytopfddchckdhgaagreat", sum := "d803cbda1e325d6fac8b03d8ed509b1a0c5ae8543f0d1f56a4f509db4d0f5ffe", func := "majordomo/majordomolaw23.ScheduleIdeals", spec := "scheduleIdeals", unfollowed := true, recurses := true, apart := false, narrowed := true }
def ScheduleIdealsUptoSaid : Prop := scheduleIdealsUptoRow.holds Tryz.pinned (OpenSpec.upto scheduleIdealsSpec)

/-- 'majordomolaw23.ScheduleFirst', WHERE WHAT IT READS IS OF BULK AT MOST 1048576: true; the input reads as it did. -/
def scheduleFirstUptoRow : OpenClaim := { program := "ytopfddchckdhgaagreat", sum := "d803cbda1e325d6fac8b03d8ed509b1a0c5ae8543f0d1f56a4f509db4d0f5ffe", func := "majordomo/majordomolaw23.ScheduleFirst", spec := "scheduleFirst", unfollowed := true, recurses := true, apart := false, narrowed := true }
def ScheduleFirstUptoSaid : Prop := scheduleFirstUptoRow.holds Tryz.pinned (OpenSpec.upto scheduleFirstSpec)

/-- 'majordomolaw23.ScheduleMore', WHERE WHAT IT READS IS OF BULK AT MOST 1048576: true; the input reads as it did. -/
def scheduleMoreUptoRow : OpenClaim := { program := "ytopfddchckdhgaagreat", sum := "d803cbda1e325d6fac8b03d8ed509b1a0c5ae8543f0d1f56a4f509db4d0f5ffe", func := "majordomo/majordomolaw23.ScheduleMore", spec := "scheduleMore", unfollowed := true, recurses := true, apart := false, narrowed := true }
def ScheduleMoreUptoSaid : Prop := scheduleMoreUptoRow.holds Tryz.pinned (OpenSpec.upto scheduleMoreSpec)

/-- 'majordomolaw23.ScheduleKnown', WHERE WHAT IT READS IS OF BULK AT MOST 1048576: true; the input reads as it did. -/
def scheduleKnownUptoRow : OpenClaim := { program := "ytopfddchckdhgaagreat", sum := "d803cbda1e325d6fac8b03d8ed509b1a0c5ae8543f0d1f56a4f509db4d0f5ffe", func := "majordomo/majordomolaw23.ScheduleKnown", spec := "scheduleKnown", unfollowed := true, recurses := true, apart := false, narrowed := true }
def ScheduleKnownUptoSaid : Prop := scheduleKnownUptoRow.holds Tryz.pinned (OpenSpec.upto scheduleKnownSpec)

end Rows
end Go.Proofs.YtopfddchckdhgaaGreat
