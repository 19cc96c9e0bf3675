/-
  DERIVED. GIVEN WITH THE SEED: THE CARDS: each row of YtgickfllblmhpaaDoorRows.lean that lists a variable, with what it lists TIED to the program's text (the seventh form; the later family's looks); each row that meets fmt, with fmt's text TOLD by the authors' own Lean function (tested against real Go, not proved from fmt's source: count such statements apart). THE CARD IS WHAT COUNTS. Prove the row's statement (the work); the ties are given (YtgickfllblmhpaaDoorTie.lean); close each card by the builder's one call (the guide's Derived/Test/ToyasCard.lean, 'card_holds'). Laid BY PROGRAM, IN A SANDBOX (cutbox-door.mjs). By AI agents, Wed Nov 11 2026. No macro, syntax, notation, axiom, sorry.
-/
import Derived.Test.YtgickfllblmhpaaDoorRows
import GoSem.ClaimSeven
namespace Go.Proofs.YtgickfllblmhpaaDoor
namespace Rows

/-- THE TIED CARD OF 'majordomolaw20.PlanSequences'. -/
def planSequencesCard : Claim7 := { stood := { row := planSequencesRow, standIns := [], harness := (true, "d2dae2d16488e67caa76039465d384a265ae4d45d678214e18c18919a7462ba5"), looks := false }, kinds := [], alts := [], laidByText := true, laidKinds := [.data, .data], laidTests := true, laidLooks := .later }
def PlanSequencesCardSaid : Prop := Claim7.holds Tryd.pinned (.plain (OpenSpec.ofChange planSequencesSpec)) planSequencesCard

/-- THE TIED CARD OF 'majordomolaw20.PlanGrows'. -/
def planGrowsCard : Claim7 := { stood := { row := planGrowsRow, standIns := [], harness := (true, "d2dae2d16488e67caa76039465d384a265ae4d45d678214e18c18919a7462ba5"), looks := false }, kinds := [], alts := [], laidByText := true, laidKinds := [.data, .data], laidTests := true, laidLooks := .later }
def PlanGrowsCardSaid : Prop := Claim7.holds Tryd.pinned (.plain (OpenSpec.ofChange planGrowsSpec)) planGrowsCard

/-- THE SECOND FORM's CARD OF 'majordomolaw20.PlanSequences'. -/
def planSequencesUptoCard : Claim7 := { stood := { row := planSequencesUptoRow, standIns := [], harness := (true, "d2dae2d16488e67caa76039465d384a265ae4d45d678214e18c18919a7462ba5"), looks := false }, kinds := [], alts := [], laidByText := true, laidKinds := [.data, .data], laidTests := true, laidLooks := .later }
def PlanSequencesUptoCardSaid : Prop := Claim7.holds Tryd.pinned (.plain (OpenSpec.upto planSequencesSpec)) planSequencesUptoCard

/-- THE SECOND FORM's CARD OF 'majordomolaw20.PlanGrows'. -/
def planGrowsUptoCard : Claim7 := { stood := { row := planGrowsUptoRow, standIns := [], harness := (true, "d2dae2d16488e67caa76039465d384a265ae4d45d678214e18c18919a7462ba5"), looks := false }, kinds := [], alts := [], laidByText := true, laidKinds := [.data, .data], laidTests := true, laidLooks := .later }
def PlanGrowsUptoCardSaid : Prop := Claim7.holds Tryd.pinned (.plain (OpenSpec.upto planGrowsSpec)) planGrowsUptoCard
end Rows
end Go.Proofs.YtgickfllblmhpaaDoor
