/-
  No cell of these rows narrows 'for every input' (looked for: loops, veiled, ifaces, maps, wideKeys, modest, calm, conditions, laid).
  DERIVED. THE GIVEN ROWS OF THIS SEAT. 5 by the template 'for every input the law returns true; each argument reads behind the call as it read before'; 0 by the template 'total and deterministic' (their statements: YtblegjdogmcgbaaGreatTotals.lean).
  GIVEN WITH THE SEED: the statements are not yours to turn. If you find one false, say at which input.
  Laid BY PROGRAM, IN A SANDBOX (cutbox-rows.mjs): the forced cells as the released guide's own fill.sh prints them over the translation 5d0ef251652b9133… (all of the seat's roots in one cut). By AI agents, Wed Nov 11 2026. No macro, syntax, notation, axiom, sorry.
-/
import Derived.Test.YtblegjdogmcgbaaGreatChecked
import GoSem.Claim
import GoSem.ClaimJoined
import GoSem.ClaimMapViews
import Derived.JoinedTies
import Derived.KernelRfl
namespace Go.Proofs.YtblegjdogmcgbaaGreat
/- THE CELL 'sum', in the pinned program and in every row, IS THE sha256 OF THE DUMP (.gsa) THAT YtblegjdogmcgbaaGreatProg.lean LOADS. Nothing in Lean hashes anything: it is a label: what it is worth is what the hold of that sum in a sandbox is worth. -/
noncomputable def Tryz.pinned : Pinned := { name := "ytblegjdogmcgbaagreat", sum := "5d0ef251652b91335c628b9944626e10baf69a6aba353b926a59a7f1f7248d7b", checked := Tryz.checked }
namespace Rows
def none {H : Type} : Left H := { results := [], args := [] }

/-- 'majordomolaw26.AgentHandles': WHATEVER THE INPUT: true; the input reads as it did. -/
def agentHandlesSpec : ChangeSpec := { name := "agentHandles", fn := fun _ => fun
  | [d1, d2, d3, d4, d5, d6] => { results := [.lit (.bool true)], args := [d1, d2, d3, d4, d5, d6] }
  | _ => none }
def agentHandlesRow : OpenClaim := { program := "ytblegjdogmcgbaagreat", sum := "5d0ef251652b91335c628b9944626e10baf69a6aba353b926a59a7f1f7248d7b", func := "majordomo/majordomolaw26.AgentHandles", spec := "agentHandles", inPlace := ["slices.overlaps[majordomo/api.Replica]"], unfollowed := true, recurses := true, apart := false }
def AgentHandlesSaid : Prop := agentHandlesRow.holds Tryz.pinned (OpenSpec.ofChange agentHandlesSpec)

/-- ITS FALSE NEIGHBOUR: 'it returns false'. Refute it at one input. -/
def agentHandlesWrong : ChangeSpec := { name := "agentHandles", fn := fun _ => fun
  | [d1, d2, d3, d4, d5, d6] => { results := [.lit (.bool false)], args := [d1, d2, d3, d4, d5, d6] }
  | _ => none }
def AgentHandlesWrongFalsely : Prop := agentHandlesRow.holds Tryz.pinned (OpenSpec.ofChange agentHandlesWrong)

/-- 'majordomolaw26.AgentOver': WHATEVER THE INPUT: true; the input reads as it did. -/
def agentOverSpec : ChangeSpec := { name := "agentOver", fn := fun _ => fun
  | [d1, d2, d3, d4, d5] => { results := [.lit (.bool true)], args := [d1, d2, d3, d4, d5] }
  | _ => none }
def agentOverRow : OpenClaim := { program := "ytblegjdogmcgbaagreat", sum := "5d0ef251652b91335c628b9944626e10baf69a6aba353b926a59a7f1f7248d7b", func := "majordomo/majordomolaw26.AgentOver", spec := "agentOver", inPlace := ["slices.overlaps[majordomo/api.Replica]"], unfollowed := true, recurses := true, apart := false }
def AgentOverSaid : Prop := agentOverRow.holds Tryz.pinned (OpenSpec.ofChange agentOverSpec)

/-- ITS FALSE NEIGHBOUR: 'it returns false'. Refute it at one input. -/
def agentOverWrong : ChangeSpec := { name := "agentOver", fn := fun _ => fun
  | [d1, d2, d3, d4, d5] => { results := [.lit (.bool false)], args := [d1, d2, d3, d4, d5] }
  | _ => none }
def AgentOverWrongFalsely : Prop := agentOverRow.holds Tryz.pinned (OpenSpec.ofChange agentOverWrong)

/-- 'majordomolaw26.AgentFails': WHATEVER THE INPUT: true; the input reads as it did. -/
def agentFailsSpec : ChangeSpec := { name := "agentFails", fn := fun _ => fun
  | [d1, d2, d3, d4] => { results := [.lit (.bool true)], args := [d1, d2, d3, d4] }
  | _ => none }
def agentFailsRow : OpenClaim := { program := "ytblegjdogmcgbaagreat", sum := "5d0ef251652b91335c628b9944626e10baf69a6aba353b926a59a7f1f7248d7b", func := "majordomo/majordomolaw26.AgentFails", spec := "agentFails", inPlace := ["slices.overlaps[majordomo/api.Replica]"], unfollowed := true, recurses := true, apart := false }
def AgentFailsSaid : Prop := agentFailsRow.holds Tryz.pinned (OpenSpec.ofChange agentFailsSpec)

/-- ITS FALSE NEIGHBOUR: 'it returns false'. Refute it at one input. -/
def agentFailsWrong : ChangeSpec := { name := "agentFails", fn := fun _ => fun
  | [d1, d2, d3, d4] => { results := [.lit (.bool false)], args := [d1, d2, d3, d4] }
  | _ => none }
def AgentFailsWrongFalsely : Prop := agentFailsRow.holds Tryz.pinned (OpenSpec.ofChange agentFailsWrong)

/-- 'majordomolaw26.AgentOnce': WHATEVER THE INPUT: true; the input reads as it did. -/
def agentOnceSpec : ChangeSpec := { name := "agentOnce", fn := fun _ => fun
  | [d1, d2, d3, d4] => { results := [.lit (.bool true)], args := [d1, d2, d3, d4] }
  | _ => none }
def agentOnceRow : OpenClaim := { program := "ytblegjdogmcgbaagreat", sum := "5d0ef251652b91335c628b9944626e10baf69a6aba353b926a59a7f1f7248d7b", func := "majordomo/majordomolaw26.AgentOnce", spec := "agentOnce", inPlace := ["slices.overlaps[majordomo/api.Replica]"], unfollowed := true, recurses := true, apart := false }
def AgentOnceSaid : Prop := agentOnceRow.holds Tryz.pinned (OpenSpec.ofChange agentOnceSpec)

/-- ITS FALSE NEIGHBOUR: 'it returns false'. Refute it at one input. -/
def agentOnceWrong : ChangeSpec := { name := "agentOnce", fn := fun _ => fun
  | [d1, d2, d3, d4] => { results := [.lit (.bool false)], args := [d1, d2, d3, d4] }
  | _ => none }
def AgentOnceWrongFalsely : Prop := agentOnceRow.holds Tryz.pinned (OpenSpec.ofChange agentOnceWrong)

/-- 'majordomolaw26.AgentKnown': WHATEVER THE INPUT: true; the input reads as it did. -/
def agentKnownSpec : ChangeSpec := { name := "agentKnown", fn := fun _ => fun
  | [] => { results := [.lit (.bool true)], args := [] }
  | _ => none }
def agentKnownRow : OpenClaim := { program := "ytblegjdogmcgbaagreat", sum := "5d0ef251652b91335c628b9944626e10baf69a6aba353b926a59a7f1f7248d7b", func := "majordomo/majordomolaw26.AgentKnown", spec := "agentKnown", inPlace := ["slices.overlaps[majordomo/api.Replica]"], unfollowed := true, recurses := true, apart := false }
def AgentKnownSaid : Prop := agentKnownRow.holds Tryz.pinned (OpenSpec.ofChange agentKnownSpec)

/-- ITS FALSE NEIGHBOUR: 'it returns false'. Refute it at one input. -/
def agentKnownWrong : ChangeSpec := { name := "agentKnown", fn := fun _ => fun
  | [] => { results := [.lit (.bool false)], args := [] }
  | _ => none }
def AgentKnownWrongFalsely : Prop := agentKnownRow.holds Tryz.pinned (OpenSpec.ofChange agentKnownWrong)

/- THE SECOND FORM. 'bulk': how many values and letters a reading holds, each counted each time it is reached (what is shared counts as often as it is met; a slice's spare places count too). A statement '..UptoSaid' is the law's where the arguments, and the package variables that the reading takes, are together of bulk at most 1048576: NARROWER than '..Said'. Prove '..Said' where nothing that the law and all that it calls make is longer than what came in: it says more and counts as full. Else prove '..UptoSaid'. A law counts once. -/
mutual
def uptoBulk {H : Type} : DataW H → Nat
  | .lit (.string bytes) => bytes.length + 1
  | .lit _ => 1
  | .nil => 1
  | .ptr d => uptoBulk d + 1
  | .slice elems spare => uptoBulkAll elems + uptoBulkAll spare + 1
  | .agg parts => uptoBulkAll parts + 1
  | .iface _ d => uptoBulk d + 1
  | .map entries => uptoBulkEntries entries + 1
  | .held _ => 1
def uptoBulkAll {H : Type} : List (DataW H) → Nat
  | [] => 0
  | d :: r => uptoBulk d + uptoBulkAll r
def uptoBulkEntries {H : Type} : List (Lit × DataW H) → Nat
  | [] => 0
  | x :: r => uptoBulkEntry x + uptoBulkEntries r
def uptoBulkEntry {H : Type} : Lit × DataW H → Nat
  | (.string bytes, d) => bytes.length + uptoBulk d + 1
  | (_, d) => uptoBulk d + 1
 end
def uptoSmall : (H : Type) → List (DataW H) → Bool := fun _ ds => decide (uptoBulkAll ds ≤ 1048576)
def OpenSpec.upto (s : _root_.Go.ChangeSpec) : _root_.Go.OpenSpec := { _root_.Go.OpenSpec.ofChange s with cond := some uptoSmall }

/-- 'majordomolaw26.AgentHandles', WHERE WHAT IT READS IS OF BULK AT MOST 1048576: true; the input reads as it did. -/
def agentHandlesUptoRow : OpenClaim := { program := "ytblegjdogmcgbaagreat", sum := "5d0ef251652b91335c628b9944626e10baf69a6aba353b926a59a7f1f7248d7b", func := "majordomo/majordomolaw26.AgentHandles", spec := "agentHandles", inPlace := ["slices.overlaps[majordomo/api.Replica]"], unfollowed := true, recurses := true, apart := false, narrowed := true }
def AgentHandlesUptoSaid : Prop := agentHandlesUptoRow.holds Tryz.pinned (OpenSpec.upto agentHandlesSpec)

/-- 'majordomolaw26.AgentOver', WHERE WHAT IT READS IS OF BULK AT MOST 1048576: true; the input reads as it did. -/
def agentOverUptoRow : OpenClaim := { program := "ytblegjdogmcgbaagreat", sum := "5d0ef251652b91335c628b9944626e10baf69a6aba353b926a59a7f1f7248d7b", func := "majordomo/majordomolaw26.AgentOver", spec := "agentOver", inPlace := ["slices.overlaps[majordomo/api.Replica]"], unfollowed := true, recurses := true, apart := false, narrowed := true }
def AgentOverUptoSaid : Prop := agentOverUptoRow.holds Tryz.pinned (OpenSpec.upto agentOverSpec)

/-- 'majordomolaw26.AgentFails', WHERE WHAT IT READS IS OF BULK AT MOST 1048576: true; the input reads as it did. -/
def agentFailsUptoRow : OpenClaim := { program := "ytblegjdogmcgbaagreat", sum := "5d0ef251652b91335c628b9944626e10baf69a6aba353b926a59a7f1f7248d7b", func := "majordomo/majordomolaw26.AgentFails", spec := "agentFails", inPlace := ["slices.overlaps[majordomo/api.Replica]"], unfollowed := true, recurses := true, apart := false, narrowed := true }
def AgentFailsUptoSaid : Prop := agentFailsUptoRow.holds Tryz.pinned (OpenSpec.upto agentFailsSpec)

/-- 'majordomolaw26.AgentOnce', WHERE WHAT IT READS IS OF BULK AT MOST 1048576: true; the input reads as it did. -/
def agentOnceUptoRow : OpenClaim := { program := "ytblegjdogmcgbaagreat", sum := "5d0ef251652b91335c628b9944626e10baf69a6aba353b926a59a7f1f7248d7b", func := "majordomo/majordomolaw26.AgentOnce", spec := "agentOnce", inPlace := ["slices.overlaps[majordomo/api.Replica]"], unfollowed := true, recurses := true, apart := false, narrowed := true }
def AgentOnceUptoSaid : Prop := agentOnceUptoRow.holds Tryz.pinned (OpenSpec.upto agentOnceSpec)

/-- 'majordomolaw26.AgentKnown', WHERE WHAT IT READS IS OF BULK AT MOST 1048576: true; the input reads as it did. -/
def agentKnownUptoRow : OpenClaim := { program := "ytblegjdogmcgbaagreat", sum := "5d0ef251652b91335c628b9944626e10baf69a6aba353b926a59a7f1f7248d7b", func := "majordomo/majordomolaw26.AgentKnown", spec := "agentKnown", inPlace := ["slices.overlaps[majordomo/api.Replica]"], unfollowed := true, recurses := true, apart := false, narrowed := true }
def AgentKnownUptoSaid : Prop := agentKnownUptoRow.holds Tryz.pinned (OpenSpec.upto agentKnownSpec)

end Rows
end Go.Proofs.YtblegjdogmcgbaaGreat
