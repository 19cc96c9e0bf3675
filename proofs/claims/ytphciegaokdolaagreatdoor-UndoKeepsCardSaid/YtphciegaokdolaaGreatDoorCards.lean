/-
  DERIVED. GIVEN WITH THE SEED: THE CARDS: each row of YtphciegaokdolaaGreatDoorRows.lean that lists a variable, with what it lists TIED to the program's text (the seventh form; the later family's looks); each row that meets fmt, with fmt's text TOLD by the authors' own Lean function (tested against real Go, not proved from fmt's source: count such statements apart). THE CARD IS WHAT COUNTS. Prove the row's statement (the work); the ties are given (YtphciegaokdolaaGreatDoorTie.lean); close each card by the builder's one call (the guide's Derived/Test/ToyasCard.lean, 'card_holds'). Laid BY PROGRAM, IN A SANDBOX (cutbox-door.mjs). By AI agents, Wed Nov 11 2026. No macro, syntax, notation, axiom, sorry.
-/
import Derived.Test.YtphciegaokdolaaGreatDoorRows
import GoSem.ClaimSeven
namespace Go.Proofs.YtphciegaokdolaaGreatDoor
namespace Rows

/-- THE TIED CARD OF 'majordomolaw24.UndoBack'. -/
def undoBackCard : Claim7 := { stood := { row := undoBackRow, standIns := [], harness := (true, "a0b560c87f26ea385e9eb1d1bca8db0d6befad3e2c727dd7ba04327951df9070"), looks := false }, kinds := [], alts := [], laidByText := true, laidKinds := [.data, .data], laidTests := true, laidLooks := .later }
def UndoBackCardSaid : Prop := Claim7.holds Tryz.pinned (.plain (OpenSpec.ofChange undoBackSpec)) undoBackCard

/-- THE TIED CARD OF 'majordomolaw24.UndoWorlds'. -/
def undoWorldsCard : Claim7 := { stood := { row := undoWorldsRow, standIns := [], harness := (true, "a0b560c87f26ea385e9eb1d1bca8db0d6befad3e2c727dd7ba04327951df9070"), looks := false }, kinds := [], alts := [], laidByText := true, laidKinds := [.data, .data], laidTests := true, laidLooks := .later }
def UndoWorldsCardSaid : Prop := Claim7.holds Tryz.pinned (.plain (OpenSpec.ofChange undoWorldsSpec)) undoWorldsCard

/-- THE TIED CARD OF 'majordomolaw24.UndoReturns'. -/
def undoReturnsCard : Claim7 := { stood := { row := undoReturnsRow, standIns := [], harness := (true, "a0b560c87f26ea385e9eb1d1bca8db0d6befad3e2c727dd7ba04327951df9070"), looks := false }, kinds := [], alts := [], laidByText := true, laidKinds := [.data, .data], laidTests := true, laidLooks := .later }
def UndoReturnsCardSaid : Prop := Claim7.holds Tryz.pinned (.plain (OpenSpec.ofChange undoReturnsSpec)) undoReturnsCard

/-- THE TIED CARD OF 'majordomolaw24.UndoKeeps'. -/
def undoKeepsCard : Claim7 := { stood := { row := undoKeepsRow, standIns := [], harness := (true, "a0b560c87f26ea385e9eb1d1bca8db0d6befad3e2c727dd7ba04327951df9070"), looks := false }, kinds := [], alts := [], laidByText := true, laidKinds := [.data, .data], laidTests := true, laidLooks := .later }
def UndoKeepsCardSaid : Prop := Claim7.holds Tryz.pinned (.plain (OpenSpec.ofChange undoKeepsSpec)) undoKeepsCard

/-- THE TIED CARD OF 'majordomolaw24.UndoKnown'. -/
def undoKnownCard : Claim7 := { stood := { row := undoKnownRow, standIns := [], harness := (true, "a0b560c87f26ea385e9eb1d1bca8db0d6befad3e2c727dd7ba04327951df9070"), looks := false }, kinds := [], alts := [], laidByText := true, laidKinds := [.data, .data], laidTests := true, laidLooks := .later }
def UndoKnownCardSaid : Prop := Claim7.holds Tryz.pinned (.plain (OpenSpec.ofChange undoKnownSpec)) undoKnownCard

/-- THE SECOND FORM's CARD OF 'majordomolaw24.UndoBack'. -/
def undoBackUptoCard : Claim7 := { stood := { row := undoBackUptoRow, standIns := [], harness := (true, "a0b560c87f26ea385e9eb1d1bca8db0d6befad3e2c727dd7ba04327951df9070"), looks := false }, kinds := [], alts := [], laidByText := true, laidKinds := [.data, .data], laidTests := true, laidLooks := .later }
def UndoBackUptoCardSaid : Prop := Claim7.holds Tryz.pinned (.plain (OpenSpec.upto undoBackSpec)) undoBackUptoCard

/-- THE SECOND FORM's CARD OF 'majordomolaw24.UndoWorlds'. -/
def undoWorldsUptoCard : Claim7 := { stood := { row := undoWorldsUptoRow, standIns := [], harness := (true, "a0b560c87f26ea385e9eb1d1bca8db0d6befad3e2c727dd7ba04327951df9070"), looks := false }, kinds := [], alts := [], laidByText := true, laidKinds := [.data, .data], laidTests := true, laidLooks := .later }
def UndoWorldsUptoCardSaid : Prop := Claim7.holds Tryz.pinned (.plain (OpenSpec.upto undoWorldsSpec)) undoWorldsUptoCard

/-- THE SECOND FORM's CARD OF 'majordomolaw24.UndoReturns'. -/
def undoReturnsUptoCard : Claim7 := { stood := { row := undoReturnsUptoRow, standIns := [], harness := (true, "a0b560c87f26ea385e9eb1d1bca8db0d6befad3e2c727dd7ba04327951df9070"), looks := false }, kinds := [], alts := [], laidByText := true, laidKinds := [.data, .data], laidTests := true, laidLooks := .later }
def UndoReturnsUptoCardSaid : Prop := Claim7.holds Tryz.pinned (.plain (OpenSpec.upto undoReturnsSpec)) undoReturnsUptoCard

/-- THE SECOND FORM's CARD OF 'majordomolaw24.UndoKeeps'. -/
def undoKeepsUptoCard : Claim7 := { stood := { row := undoKeepsUptoRow, standIns := [], harness := (true, "a0b560c87f26ea385e9eb1d1bca8db0d6befad3e2c727dd7ba04327951df9070"), looks := false }, kinds := [], alts := [], laidByText := true, laidKinds := [.data, .data], laidTests := true, laidLooks := .later }
def UndoKeepsUptoCardSaid : Prop := Claim7.holds Tryz.pinned (.plain (OpenSpec.upto undoKeepsSpec)) undoKeepsUptoCard

/-- THE SECOND FORM's CARD OF 'majordomolaw24.UndoKnown'. -/
def undoKnownUptoCard : Claim7 := { stood := { row := undoKnownUptoRow, standIns := [], harness := (true, "a0b560c87f26ea385e9eb1d1bca8db0d6befad3e2c727dd7ba04327951df9070"), looks := false }, kinds := [], alts := [], laidByText := true, laidKinds := [.data, .data], laidTests := true, laidLooks := .later }
def UndoKnownUptoCardSaid : Prop := Claim7.holds Tryz.pinned (.plain (OpenSpec.upto undoKnownSpec)) undoKnownUptoCard
end Rows
end Go.Proofs.YtphciegaokdolaaGreatDoor
