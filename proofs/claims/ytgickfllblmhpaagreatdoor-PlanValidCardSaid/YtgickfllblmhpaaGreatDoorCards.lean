/-
  DERIVED. GIVEN WITH THE SEED: THE CARDS: each row of YtgickfllblmhpaaGreatDoorRows.lean that lists a variable, with what it lists TIED to the program's text (the seventh form; the later family's looks); each row that meets fmt, with fmt's text TOLD by the authors' own Lean function (tested against real Go, not proved from fmt's source: count such statements apart). THE CARD IS WHAT COUNTS. Prove the row's statement (the work); the ties are given (YtgickfllblmhpaaGreatDoorTie.lean); close each card by the builder's one call (the guide's Derived/Test/ToyasCard.lean, 'card_holds'). Laid BY PROGRAM, IN A SANDBOX (cutbox-door.mjs). By AI agents, Wed Nov 11 2026. No macro, syntax, notation, axiom, sorry.
-/
import Derived.Test.YtgickfllblmhpaaGreatDoorRows
import GoSem.ClaimSeven
namespace Go.Proofs.YtgickfllblmhpaaGreatDoor
namespace Rows

/-- THE TIED CARD OF 'majordomolaw20.PlanIdeals'. -/
def planIdealsCard : Claim7 := { stood := { row := planIdealsRow, standIns := [], harness := (true, "21517af1bd133b0e0dd40e1291e362d048afa421f54e16dbfb319540f65281ee"), looks := false }, kinds := [], alts := [], laidByText := true, laidKinds := [.data, .data], laidTests := true, laidLooks := .later }
def PlanIdealsCardSaid : Prop := Claim7.holds Tryz.pinned (.plain (OpenSpec.ofChange planIdealsSpec)) planIdealsCard

/-- THE TIED CARD OF 'majordomolaw20.PlanReduces'. -/
def planReducesCard : Claim7 := { stood := { row := planReducesRow, standIns := [], harness := (true, "21517af1bd133b0e0dd40e1291e362d048afa421f54e16dbfb319540f65281ee"), looks := false }, kinds := [], alts := [], laidByText := true, laidKinds := [.data, .data], laidTests := true, laidLooks := .later }
def PlanReducesCardSaid : Prop := Claim7.holds Tryz.pinned (.plain (OpenSpec.ofChange planReducesSpec)) planReducesCard

/-- THE TIED CARD OF 'majordomolaw20.PlanKnown'. -/
def planKnownCard : Claim7 := { stood := { row := planKnownRow, standIns := [], harness := (true, "21517af1bd133b0e0dd40e1291e362d048afa421f54e16dbfb319540f65281ee"), looks := false }, kinds := [], alts := [], laidByText := true, laidKinds := [.data, .data], laidTests := true, laidLooks := .later }
def PlanKnownCardSaid : Prop := Claim7.holds Tryz.pinned (.plain (OpenSpec.ofChange planKnownSpec)) planKnownCard

/-- THE TIED CARD OF 'majordomolaw20.PlanValid'. -/
def planValidCard : Claim7 := { stood := { row := planValidRow, standIns := [], harness := (true, "21517af1bd133b0e0dd40e1291e362d048afa421f54e16dbfb319540f65281ee"), looks := false }, kinds := [], alts := [], laidByText := true, laidKinds := [.data, .data], laidTests := true, laidLooks := .later }
def PlanValidCardSaid : Prop := Claim7.holds Tryz.pinned (.plain (OpenSpec.ofChange planValidSpec)) planValidCard

/-- THE SECOND FORM's CARD OF 'majordomolaw20.PlanIdeals'. -/
def planIdealsUptoCard : Claim7 := { stood := { row := planIdealsUptoRow, standIns := [], harness := (true, "21517af1bd133b0e0dd40e1291e362d048afa421f54e16dbfb319540f65281ee"), looks := false }, kinds := [], alts := [], laidByText := true, laidKinds := [.data, .data], laidTests := true, laidLooks := .later }
def PlanIdealsUptoCardSaid : Prop := Claim7.holds Tryz.pinned (.plain (OpenSpec.upto planIdealsSpec)) planIdealsUptoCard

/-- THE SECOND FORM's CARD OF 'majordomolaw20.PlanReduces'. -/
def planReducesUptoCard : Claim7 := { stood := { row := planReducesUptoRow, standIns := [], harness := (true, "21517af1bd133b0e0dd40e1291e362d048afa421f54e16dbfb319540f65281ee"), looks := false }, kinds := [], alts := [], laidByText := true, laidKinds := [.data, .data], laidTests := true, laidLooks := .later }
def PlanReducesUptoCardSaid : Prop := Claim7.holds Tryz.pinned (.plain (OpenSpec.upto planReducesSpec)) planReducesUptoCard

/-- THE SECOND FORM's CARD OF 'majordomolaw20.PlanKnown'. -/
def planKnownUptoCard : Claim7 := { stood := { row := planKnownUptoRow, standIns := [], harness := (true, "21517af1bd133b0e0dd40e1291e362d048afa421f54e16dbfb319540f65281ee"), looks := false }, kinds := [], alts := [], laidByText := true, laidKinds := [.data, .data], laidTests := true, laidLooks := .later }
def PlanKnownUptoCardSaid : Prop := Claim7.holds Tryz.pinned (.plain (OpenSpec.upto planKnownSpec)) planKnownUptoCard

/-- THE SECOND FORM's CARD OF 'majordomolaw20.PlanValid'. -/
def planValidUptoCard : Claim7 := { stood := { row := planValidUptoRow, standIns := [], harness := (true, "21517af1bd133b0e0dd40e1291e362d048afa421f54e16dbfb319540f65281ee"), looks := false }, kinds := [], alts := [], laidByText := true, laidKinds := [.data, .data], laidTests := true, laidLooks := .later }
def PlanValidUptoCardSaid : Prop := Claim7.holds Tryz.pinned (.plain (OpenSpec.upto planValidSpec)) planValidUptoCard
end Rows
end Go.Proofs.YtgickfllblmhpaaGreatDoor
