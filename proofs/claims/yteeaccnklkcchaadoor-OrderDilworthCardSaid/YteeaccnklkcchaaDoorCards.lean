/-
  DERIVED. GIVEN WITH THE SEED: THE CARDS: each row of YteeaccnklkcchaaDoorRows.lean that lists a variable, with what it lists TIED to the program's text (the seventh form; the later family's looks); each row that meets fmt, with fmt's text TOLD by the authors' own Lean function (tested against real Go, not proved from fmt's source: count such statements apart). THE CARD IS WHAT COUNTS. Prove the row's statement (the work); the ties are given (YteeaccnklkcchaaDoorTie.lean); close each card by the builder's one call (the guide's Derived/Test/ToyasCard.lean, 'card_holds'). Laid BY PROGRAM, IN A SANDBOX (cutbox-door.mjs). By AI agents, Wed Nov 11 2026. No macro, syntax, notation, axiom, sorry.
-/
import Derived.Test.YteeaccnklkcchaaDoorRows
import GoSem.ClaimSeven
namespace Go.Proofs.YteeaccnklkcchaaDoor
namespace Rows

/-- THE TIED CARD OF 'majordomolaw10.OrderKnown'. -/
def orderKnownCard : Claim7 := { stood := { row := orderKnownRow, standIns := [], harness := (true, "c030c1954f6a8ac8ca8aa0fc76db80b7d87f9a1fd59fd0163eddbf5d29a5a2af"), looks := false }, kinds := [], alts := [], laidByText := true, laidKinds := [.data, .data], laidTests := true, laidLooks := .later }
def OrderKnownCardSaid : Prop := Claim7.holds Tryd.pinned (.plain (OpenSpec.ofChange orderKnownSpec)) orderKnownCard

/-- THE TIED CARD OF 'majordomolaw10.OrderShapes'. -/
def orderShapesCard : Claim7 := { stood := { row := orderShapesRow, standIns := [], harness := (true, "c030c1954f6a8ac8ca8aa0fc76db80b7d87f9a1fd59fd0163eddbf5d29a5a2af"), looks := false }, kinds := [], alts := [], laidByText := true, laidKinds := [.data, .data], laidTests := true, laidLooks := .later }
def OrderShapesCardSaid : Prop := Claim7.holds Tryd.pinned (.plain (OpenSpec.ofChange orderShapesSpec)) orderShapesCard

/-- THE TIED CARD OF 'majordomolaw10.OrderIdeals'. -/
def orderIdealsCard : Claim7 := { stood := { row := orderIdealsRow, standIns := [], harness := (true, "c030c1954f6a8ac8ca8aa0fc76db80b7d87f9a1fd59fd0163eddbf5d29a5a2af"), looks := false }, kinds := [], alts := [], laidByText := true, laidKinds := [.data, .data], laidTests := true, laidLooks := .later }
def OrderIdealsCardSaid : Prop := Claim7.holds Tryd.pinned (.plain (OpenSpec.ofChange orderIdealsSpec)) orderIdealsCard

/-- THE TIED CARD OF 'majordomolaw10.OrderLines'. -/
def orderLinesCard : Claim7 := { stood := { row := orderLinesRow, standIns := [], harness := (true, "c030c1954f6a8ac8ca8aa0fc76db80b7d87f9a1fd59fd0163eddbf5d29a5a2af"), looks := false }, kinds := [], alts := [], laidByText := true, laidKinds := [.data, .data], laidTests := true, laidLooks := .later }
def OrderLinesCardSaid : Prop := Claim7.holds Tryd.pinned (.plain (OpenSpec.ofChange orderLinesSpec)) orderLinesCard

/-- THE TIED CARD OF 'majordomolaw10.OrderSizes'. -/
def orderSizesCard : Claim7 := { stood := { row := orderSizesRow, standIns := [], harness := (true, "c030c1954f6a8ac8ca8aa0fc76db80b7d87f9a1fd59fd0163eddbf5d29a5a2af"), looks := false }, kinds := [], alts := [], laidByText := true, laidKinds := [.data, .data], laidTests := true, laidLooks := .later }
def OrderSizesCardSaid : Prop := Claim7.holds Tryd.pinned (.plain (OpenSpec.ofChange orderSizesSpec)) orderSizesCard

/-- THE TIED CARD OF 'majordomolaw10.OrderBegins'. -/
def orderBeginsCard : Claim7 := { stood := { row := orderBeginsRow, standIns := [], harness := (true, "c030c1954f6a8ac8ca8aa0fc76db80b7d87f9a1fd59fd0163eddbf5d29a5a2af"), looks := false }, kinds := [], alts := [], laidByText := true, laidKinds := [.data, .data], laidTests := true, laidLooks := .later }
def OrderBeginsCardSaid : Prop := Claim7.holds Tryd.pinned (.plain (OpenSpec.ofChange orderBeginsSpec)) orderBeginsCard

/-- THE TIED CARD OF 'majordomolaw10.OrderDilworth'. -/
def orderDilworthCard : Claim7 := { stood := { row := orderDilworthRow, standIns := [], harness := (true, "c030c1954f6a8ac8ca8aa0fc76db80b7d87f9a1fd59fd0163eddbf5d29a5a2af"), looks := false }, kinds := [], alts := [], laidByText := true, laidKinds := [.data, .data], laidTests := true, laidLooks := .later }
def OrderDilworthCardSaid : Prop := Claim7.holds Tryd.pinned (.plain (OpenSpec.ofChange orderDilworthSpec)) orderDilworthCard

/-- THE TIED CARD OF 'majordomolaw10.OrderReduced'. -/
def orderReducedCard : Claim7 := { stood := { row := orderReducedRow, standIns := [], harness := (true, "c030c1954f6a8ac8ca8aa0fc76db80b7d87f9a1fd59fd0163eddbf5d29a5a2af"), looks := false }, kinds := [], alts := [], laidByText := true, laidKinds := [.data, .data], laidTests := true, laidLooks := .later }
def OrderReducedCardSaid : Prop := Claim7.holds Tryd.pinned (.plain (OpenSpec.ofChange orderReducedSpec)) orderReducedCard

/-- THE TIED CARD OF 'majordomolaw10.OrderNumbers'. -/
def orderNumbersCard : Claim7 := { stood := { row := orderNumbersRow, standIns := [], harness := (true, "c030c1954f6a8ac8ca8aa0fc76db80b7d87f9a1fd59fd0163eddbf5d29a5a2af"), looks := false }, kinds := [], alts := [], laidByText := true, laidKinds := [.data, .data], laidTests := true, laidLooks := .later }
def OrderNumbersCardSaid : Prop := Claim7.holds Tryd.pinned (.plain (OpenSpec.ofChange orderNumbersSpec)) orderNumbersCard

/-- THE SECOND FORM's CARD OF 'majordomolaw10.OrderKnown'. -/
def orderKnownUptoCard : Claim7 := { stood := { row := orderKnownUptoRow, standIns := [], harness := (true, "c030c1954f6a8ac8ca8aa0fc76db80b7d87f9a1fd59fd0163eddbf5d29a5a2af"), looks := false }, kinds := [], alts := [], laidByText := true, laidKinds := [.data, .data], laidTests := true, laidLooks := .later }
def OrderKnownUptoCardSaid : Prop := Claim7.holds Tryd.pinned (.plain (OpenSpec.upto orderKnownSpec)) orderKnownUptoCard

/-- THE SECOND FORM's CARD OF 'majordomolaw10.OrderShapes'. -/
def orderShapesUptoCard : Claim7 := { stood := { row := orderShapesUptoRow, standIns := [], harness := (true, "c030c1954f6a8ac8ca8aa0fc76db80b7d87f9a1fd59fd0163eddbf5d29a5a2af"), looks := false }, kinds := [], alts := [], laidByText := true, laidKinds := [.data, .data], laidTests := true, laidLooks := .later }
def OrderShapesUptoCardSaid : Prop := Claim7.holds Tryd.pinned (.plain (OpenSpec.upto orderShapesSpec)) orderShapesUptoCard

/-- THE SECOND FORM's CARD OF 'majordomolaw10.OrderIdeals'. -/
def orderIdealsUptoCard : Claim7 := { stood := { row := orderIdealsUptoRow, standIns := [], harness := (true, "c030c1954f6a8ac8ca8aa0fc76db80b7d87f9a1fd59fd0163eddbf5d29a5a2af"), looks := false }, kinds := [], alts := [], laidByText := true, laidKinds := [.data, .data], laidTests := true, laidLooks := .later }
def OrderIdealsUptoCardSaid : Prop := Claim7.holds Tryd.pinned (.plain (OpenSpec.upto orderIdealsSpec)) orderIdealsUptoCard

/-- THE SECOND FORM's CARD OF 'majordomolaw10.OrderLines'. -/
def orderLinesUptoCard : Claim7 := { stood := { row := orderLinesUptoRow, standIns := [], harness := (true, "c030c1954f6a8ac8ca8aa0fc76db80b7d87f9a1fd59fd0163eddbf5d29a5a2af"), looks := false }, kinds := [], alts := [], laidByText := true, laidKinds := [.data, .data], laidTests := true, laidLooks := .later }
def OrderLinesUptoCardSaid : Prop := Claim7.holds Tryd.pinned (.plain (OpenSpec.upto orderLinesSpec)) orderLinesUptoCard

/-- THE SECOND FORM's CARD OF 'majordomolaw10.OrderSizes'. -/
def orderSizesUptoCard : Claim7 := { stood := { row := orderSizesUptoRow, standIns := [], harness := (true, "c030c1954f6a8ac8ca8aa0fc76db80b7d87f9a1fd59fd0163eddbf5d29a5a2af"), looks := false }, kinds := [], alts := [], laidByText := true, laidKinds := [.data, .data], laidTests := true, laidLooks := .later }
def OrderSizesUptoCardSaid : Prop := Claim7.holds Tryd.pinned (.plain (OpenSpec.upto orderSizesSpec)) orderSizesUptoCard

/-- THE SECOND FORM's CARD OF 'majordomolaw10.OrderBegins'. -/
def orderBeginsUptoCard : Claim7 := { stood := { row := orderBeginsUptoRow, standIns := [], harness := (true, "c030c1954f6a8ac8ca8aa0fc76db80b7d87f9a1fd59fd0163eddbf5d29a5a2af"), looks := false }, kinds := [], alts := [], laidByText := true, laidKinds := [.data, .data], laidTests := true, laidLooks := .later }
def OrderBeginsUptoCardSaid : Prop := Claim7.holds Tryd.pinned (.plain (OpenSpec.upto orderBeginsSpec)) orderBeginsUptoCard

/-- THE SECOND FORM's CARD OF 'majordomolaw10.OrderDilworth'. -/
def orderDilworthUptoCard : Claim7 := { stood := { row := orderDilworthUptoRow, standIns := [], harness := (true, "c030c1954f6a8ac8ca8aa0fc76db80b7d87f9a1fd59fd0163eddbf5d29a5a2af"), looks := false }, kinds := [], alts := [], laidByText := true, laidKinds := [.data, .data], laidTests := true, laidLooks := .later }
def OrderDilworthUptoCardSaid : Prop := Claim7.holds Tryd.pinned (.plain (OpenSpec.upto orderDilworthSpec)) orderDilworthUptoCard

/-- THE SECOND FORM's CARD OF 'majordomolaw10.OrderReduced'. -/
def orderReducedUptoCard : Claim7 := { stood := { row := orderReducedUptoRow, standIns := [], harness := (true, "c030c1954f6a8ac8ca8aa0fc76db80b7d87f9a1fd59fd0163eddbf5d29a5a2af"), looks := false }, kinds := [], alts := [], laidByText := true, laidKinds := [.data, .data], laidTests := true, laidLooks := .later }
def OrderReducedUptoCardSaid : Prop := Claim7.holds Tryd.pinned (.plain (OpenSpec.upto orderReducedSpec)) orderReducedUptoCard

/-- THE SECOND FORM's CARD OF 'majordomolaw10.OrderNumbers'. -/
def orderNumbersUptoCard : Claim7 := { stood := { row := orderNumbersUptoRow, standIns := [], harness := (true, "c030c1954f6a8ac8ca8aa0fc76db80b7d87f9a1fd59fd0163eddbf5d29a5a2af"), looks := false }, kinds := [], alts := [], laidByText := true, laidKinds := [.data, .data], laidTests := true, laidLooks := .later }
def OrderNumbersUptoCardSaid : Prop := Claim7.holds Tryd.pinned (.plain (OpenSpec.upto orderNumbersSpec)) orderNumbersUptoCard
end Rows
end Go.Proofs.YteeaccnklkcchaaDoor
