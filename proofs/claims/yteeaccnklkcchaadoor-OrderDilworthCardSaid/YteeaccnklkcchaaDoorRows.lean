/-
  NARROWER THAN 'FOR EVERY INPUT', by the rows' own cells (each row's printed sentence says how): OrderKnown: laid · OrderShapes: laid · OrderIdeals: laid · OrderLines: laid · OrderSizes: laid · OrderBegins: laid · OrderDilworth: laid · OrderReduced: laid · OrderNumbers: laid.
  DERIVED. THE GIVEN ROWS OF THIS SEAT. 9 by the template 'for every input the law returns true; each argument reads behind the call as it read before'; 0 by the template 'total and deterministic' (their statements: YteeaccnklkcchaaDoorTotals.lean).
  GIVEN WITH THE SEED: the statements are not yours to turn. If you find one false, say at which input.
  Laid BY PROGRAM, IN A SANDBOX (cutbox-rows.mjs): the forced cells as the released guide's own fill.sh prints them over the translation 5696710bd79fe751… (all of the seat's roots in one cut). By AI agents, Wed Nov 11 2026. No macro, syntax, notation, axiom, sorry.
-/
import Derived.Test.YteeaccnklkcchaaDoorChecked
import GoSem.Claim
import GoSem.ClaimJoined
import GoSem.ClaimMapViews
import Derived.JoinedTies
import Derived.KernelRfl
namespace Go.Proofs.YteeaccnklkcchaaDoor
/- THE CELL 'sum', in the pinned program and in every row, IS THE sha256 OF THE DUMP (.gsa) THAT YteeaccnklkcchaaDoorProg.lean LOADS. Nothing in Lean hashes anything: it is a label: what it is worth is what the hold of that sum in a sandbox is worth. -/
noncomputable def Tryd.pinned : Pinned := { name := "yteeaccnklkcchaadoor", sum := "5696710bd79fe7515980328626b5e6259c5df3b0a023f5f9d81761150181decd", checked := Tryd.checked }
namespace Rows
def none {H : Type} : Left H := { results := [], args := [] }

/- WHAT THE LISTED PACKAGE-LEVEL VARIABLES READ AS WHEN THE CALL BEGINS. Each datum BY PROGRAM (the guide's laid-datum.mjs) off the statement by which the dump's own 'gosem.cut.vars' lays the variable. In a bare row this is a premise. The card (YteeaccnklkcchaaDoorCards.lean) ties it to the program's text. -/
def laid_math_bits_deBruijn32tab {H : Type} : DataW H := .agg [.lit (.int .u8 0), .lit (.int .u8 1), .lit (.int .u8 28), .lit (.int .u8 2), .lit (.int .u8 29), .lit (.int .u8 14), .lit (.int .u8 24), .lit (.int .u8 3), .lit (.int .u8 30), .lit (.int .u8 22), .lit (.int .u8 20), .lit (.int .u8 15), .lit (.int .u8 25), .lit (.int .u8 17), .lit (.int .u8 4), .lit (.int .u8 8), .lit (.int .u8 31), .lit (.int .u8 27), .lit (.int .u8 13), .lit (.int .u8 23), .lit (.int .u8 21), .lit (.int .u8 19), .lit (.int .u8 16), .lit (.int .u8 7), .lit (.int .u8 26), .lit (.int .u8 12), .lit (.int .u8 18), .lit (.int .u8 6), .lit (.int .u8 11), .lit (.int .u8 5), .lit (.int .u8 10), .lit (.int .u8 9)]
def laid_math_bits_deBruijn64tab {H : Type} : DataW H := .agg [.lit (.int .u8 0), .lit (.int .u8 1), .lit (.int .u8 56), .lit (.int .u8 2), .lit (.int .u8 57), .lit (.int .u8 49), .lit (.int .u8 28), .lit (.int .u8 3), .lit (.int .u8 61), .lit (.int .u8 58), .lit (.int .u8 42), .lit (.int .u8 50), .lit (.int .u8 38), .lit (.int .u8 29), .lit (.int .u8 17), .lit (.int .u8 4), .lit (.int .u8 62), .lit (.int .u8 47), .lit (.int .u8 59), .lit (.int .u8 36), .lit (.int .u8 45), .lit (.int .u8 43), .lit (.int .u8 51), .lit (.int .u8 22), .lit (.int .u8 53), .lit (.int .u8 39), .lit (.int .u8 33), .lit (.int .u8 30), .lit (.int .u8 24), .lit (.int .u8 18), .lit (.int .u8 12), .lit (.int .u8 5), .lit (.int .u8 63), .lit (.int .u8 55), .lit (.int .u8 48), .lit (.int .u8 27), .lit (.int .u8 60), .lit (.int .u8 41), .lit (.int .u8 37), .lit (.int .u8 16), .lit (.int .u8 46), .lit (.int .u8 35), .lit (.int .u8 44), .lit (.int .u8 21), .lit (.int .u8 52), .lit (.int .u8 32), .lit (.int .u8 23), .lit (.int .u8 11), .lit (.int .u8 54), .lit (.int .u8 26), .lit (.int .u8 40), .lit (.int .u8 15), .lit (.int .u8 34), .lit (.int .u8 20), .lit (.int .u8 31), .lit (.int .u8 10), .lit (.int .u8 25), .lit (.int .u8 14), .lit (.int .u8 19), .lit (.int .u8 9), .lit (.int .u8 13), .lit (.int .u8 8), .lit (.int .u8 7), .lit (.int .u8 6)]

/-- 'majordomolaw10.OrderKnown': WHATEVER THE INPUT: true; the input reads as it did. -/
def orderKnownSpec : ChangeSpec := { name := "orderKnown", fn := fun _ => fun
  | [] => { results := [.lit (.bool true)], args := [] }
  | _ => none }
def orderKnownRow : OpenClaim := { program := "yteeaccnklkcchaadoor", sum := "5696710bd79fe7515980328626b5e6259c5df3b0a023f5f9d81761150181decd", func := "majordomo/majordomolaw10.OrderKnown", spec := "orderKnown", unfollowed := true, recurses := true, named := ["math/bits.deBruijn32tab", "math/bits.deBruijn64tab"], apart := false, laid := [("math/bits.deBruijn32tab", laid_math_bits_deBruijn32tab), ("math/bits.deBruijn64tab", laid_math_bits_deBruijn64tab)] }
def OrderKnownSaid : Prop := orderKnownRow.holds Tryd.pinned (OpenSpec.ofChange orderKnownSpec)

/-- ITS FALSE NEIGHBOUR: 'it returns false'. Refute it at one input. -/
def orderKnownWrong : ChangeSpec := { name := "orderKnown", fn := fun _ => fun
  | [] => { results := [.lit (.bool false)], args := [] }
  | _ => none }
def OrderKnownWrongFalsely : Prop := orderKnownRow.holds Tryd.pinned (OpenSpec.ofChange orderKnownWrong)

/-- 'majordomolaw10.OrderShapes': WHATEVER THE INPUT: true; the input reads as it did. -/
def orderShapesSpec : ChangeSpec := { name := "orderShapes", fn := fun _ => fun
  | [d] => { results := [.lit (.bool true)], args := [d] }
  | _ => none }
def orderShapesRow : OpenClaim := { program := "yteeaccnklkcchaadoor", sum := "5696710bd79fe7515980328626b5e6259c5df3b0a023f5f9d81761150181decd", func := "majordomo/majordomolaw10.OrderShapes", spec := "orderShapes", unfollowed := true, recurses := true, named := ["math/bits.deBruijn32tab", "math/bits.deBruijn64tab"], apart := false, laid := [("math/bits.deBruijn32tab", laid_math_bits_deBruijn32tab), ("math/bits.deBruijn64tab", laid_math_bits_deBruijn64tab)] }
def OrderShapesSaid : Prop := orderShapesRow.holds Tryd.pinned (OpenSpec.ofChange orderShapesSpec)

/-- ITS FALSE NEIGHBOUR: 'it returns false'. Refute it at one input. -/
def orderShapesWrong : ChangeSpec := { name := "orderShapes", fn := fun _ => fun
  | [d] => { results := [.lit (.bool false)], args := [d] }
  | _ => none }
def OrderShapesWrongFalsely : Prop := orderShapesRow.holds Tryd.pinned (OpenSpec.ofChange orderShapesWrong)

/-- 'majordomolaw10.OrderIdeals': WHATEVER THE INPUT: true; the input reads as it did. -/
def orderIdealsSpec : ChangeSpec := { name := "orderIdeals", fn := fun _ => fun
  | [d1, d2] => { results := [.lit (.bool true)], args := [d1, d2] }
  | _ => none }
def orderIdealsRow : OpenClaim := { program := "yteeaccnklkcchaadoor", sum := "5696710bd79fe7515980328626b5e6259c5df3b0a023f5f9d81761150181decd", func := "majordomo/majordomolaw10.OrderIdeals", spec := "orderIdeals", unfollowed := true, recurses := true, named := ["math/bits.deBruijn32tab", "math/bits.deBruijn64tab"], apart := false, laid := [("math/bits.deBruijn32tab", laid_math_bits_deBruijn32tab), ("math/bits.deBruijn64tab", laid_math_bits_deBruijn64tab)] }
def OrderIdealsSaid : Prop := orderIdealsRow.holds Tryd.pinned (OpenSpec.ofChange orderIdealsSpec)

/-- ITS FALSE NEIGHBOUR: 'it returns false'. Refute it at one input. -/
def orderIdealsWrong : ChangeSpec := { name := "orderIdeals", fn := fun _ => fun
  | [d1, d2] => { results := [.lit (.bool false)], args := [d1, d2] }
  | _ => none }
def OrderIdealsWrongFalsely : Prop := orderIdealsRow.holds Tryd.pinned (OpenSpec.ofChange orderIdealsWrong)

/-- 'majordomolaw10.OrderLines': WHATEVER THE INPUT: true; the input reads as it did. -/
def orderLinesSpec : ChangeSpec := { name := "orderLines", fn := fun _ => fun
  | [d1, d2, d3] => { results := [.lit (.bool true)], args := [d1, d2, d3] }
  | _ => none }
def orderLinesRow : OpenClaim := { program := "yteeaccnklkcchaadoor", sum := "5696710bd79fe7515980328626b5e6259c5df3b0a023f5f9d81761150181decd", func := "majordomo/majordomolaw10.OrderLines", spec := "orderLines", unfollowed := true, recurses := true, named := ["math/bits.deBruijn32tab", "math/bits.deBruijn64tab"], apart := false, laid := [("math/bits.deBruijn32tab", laid_math_bits_deBruijn32tab), ("math/bits.deBruijn64tab", laid_math_bits_deBruijn64tab)] }
def OrderLinesSaid : Prop := orderLinesRow.holds Tryd.pinned (OpenSpec.ofChange orderLinesSpec)

/-- ITS FALSE NEIGHBOUR: 'it returns false'. Refute it at one input. -/
def orderLinesWrong : ChangeSpec := { name := "orderLines", fn := fun _ => fun
  | [d1, d2, d3] => { results := [.lit (.bool false)], args := [d1, d2, d3] }
  | _ => none }
def OrderLinesWrongFalsely : Prop := orderLinesRow.holds Tryd.pinned (OpenSpec.ofChange orderLinesWrong)

/-- 'majordomolaw10.OrderSizes': WHATEVER THE INPUT: true; the input reads as it did. -/
def orderSizesSpec : ChangeSpec := { name := "orderSizes", fn := fun _ => fun
  | [d] => { results := [.lit (.bool true)], args := [d] }
  | _ => none }
def orderSizesRow : OpenClaim := { program := "yteeaccnklkcchaadoor", sum := "5696710bd79fe7515980328626b5e6259c5df3b0a023f5f9d81761150181decd", func := "majordomo/majordomolaw10.OrderSizes", spec := "orderSizes", unfollowed := true, recurses := true, named := ["math/bits.deBruijn32tab", "math/bits.deBruijn64tab"], apart := false, laid := [("math/bits.deBruijn32tab", laid_math_bits_deBruijn32tab), ("math/bits.deBruijn64tab", laid_math_bits_deBruijn64tab)] }
def OrderSizesSaid : Prop := orderSizesRow.holds Tryd.pinned (OpenSpec.ofChange orderSizesSpec)

/-- ITS FALSE NEIGHBOUR: 'it returns false'. Refute it at one input. -/
def orderSizesWrong : ChangeSpec := { name := "orderSizes", fn := fun _ => fun
  | [d] => { results := [.lit (.bool false)], args := [d] }
  | _ => none }
def OrderSizesWrongFalsely : Prop := orderSizesRow.holds Tryd.pinned (OpenSpec.ofChange orderSizesWrong)

/-- 'majordomolaw10.OrderBegins': WHATEVER THE INPUT: true; the input reads as it did. -/
def orderBeginsSpec : ChangeSpec := { name := "orderBegins", fn := fun _ => fun
  | [d1, d2, d3, d4] => { results := [.lit (.bool true)], args := [d1, d2, d3, d4] }
  | _ => none }
def orderBeginsRow : OpenClaim := { program := "yteeaccnklkcchaadoor", sum := "5696710bd79fe7515980328626b5e6259c5df3b0a023f5f9d81761150181decd", func := "majordomo/majordomolaw10.OrderBegins", spec := "orderBegins", unfollowed := true, recurses := true, named := ["math/bits.deBruijn32tab", "math/bits.deBruijn64tab"], apart := false, laid := [("math/bits.deBruijn32tab", laid_math_bits_deBruijn32tab), ("math/bits.deBruijn64tab", laid_math_bits_deBruijn64tab)] }
def OrderBeginsSaid : Prop := orderBeginsRow.holds Tryd.pinned (OpenSpec.ofChange orderBeginsSpec)

/-- ITS FALSE NEIGHBOUR: 'it returns false'. Refute it at one input. -/
def orderBeginsWrong : ChangeSpec := { name := "orderBegins", fn := fun _ => fun
  | [d1, d2, d3, d4] => { results := [.lit (.bool false)], args := [d1, d2, d3, d4] }
  | _ => none }
def OrderBeginsWrongFalsely : Prop := orderBeginsRow.holds Tryd.pinned (OpenSpec.ofChange orderBeginsWrong)

/-- 'majordomolaw10.OrderDilworth': WHATEVER THE INPUT: true; the input reads as it did. -/
def orderDilworthSpec : ChangeSpec := { name := "orderDilworth", fn := fun _ => fun
  | [d1, d2, d3, d4] => { results := [.lit (.bool true)], args := [d1, d2, d3, d4] }
  | _ => none }
def orderDilworthRow : OpenClaim := { program := "yteeaccnklkcchaadoor", sum := "5696710bd79fe7515980328626b5e6259c5df3b0a023f5f9d81761150181decd", func := "majordomo/majordomolaw10.OrderDilworth", spec := "orderDilworth", unfollowed := true, recurses := true, named := ["math/bits.deBruijn32tab", "math/bits.deBruijn64tab"], apart := false, laid := [("math/bits.deBruijn32tab", laid_math_bits_deBruijn32tab), ("math/bits.deBruijn64tab", laid_math_bits_deBruijn64tab)] }
def OrderDilworthSaid : Prop := orderDilworthRow.holds Tryd.pinned (OpenSpec.ofChange orderDilworthSpec)

/-- ITS FALSE NEIGHBOUR: 'it returns false'. Refute it at one input. -/
def orderDilworthWrong : ChangeSpec := { name := "orderDilworth", fn := fun _ => fun
  | [d1, d2, d3, d4] => { results := [.lit (.bool false)], args := [d1, d2, d3, d4] }
  | _ => none }
def OrderDilworthWrongFalsely : Prop := orderDilworthRow.holds Tryd.pinned (OpenSpec.ofChange orderDilworthWrong)

/-- 'majordomolaw10.OrderReduced': WHATEVER THE INPUT: true; the input reads as it did. -/
def orderReducedSpec : ChangeSpec := { name := "orderReduced", fn := fun _ => fun
  | [d1, d2, d3] => { results := [.lit (.bool true)], args := [d1, d2, d3] }
  | _ => none }
def orderReducedRow : OpenClaim := { program := "yteeaccnklkcchaadoor", sum := "5696710bd79fe7515980328626b5e6259c5df3b0a023f5f9d81761150181decd", func := "majordomo/majordomolaw10.OrderReduced", spec := "orderReduced", unfollowed := true, recurses := true, named := ["math/bits.deBruijn32tab", "math/bits.deBruijn64tab"], apart := false, laid := [("math/bits.deBruijn32tab", laid_math_bits_deBruijn32tab), ("math/bits.deBruijn64tab", laid_math_bits_deBruijn64tab)] }
def OrderReducedSaid : Prop := orderReducedRow.holds Tryd.pinned (OpenSpec.ofChange orderReducedSpec)

/-- ITS FALSE NEIGHBOUR: 'it returns false'. Refute it at one input. -/
def orderReducedWrong : ChangeSpec := { name := "orderReduced", fn := fun _ => fun
  | [d1, d2, d3] => { results := [.lit (.bool false)], args := [d1, d2, d3] }
  | _ => none }
def OrderReducedWrongFalsely : Prop := orderReducedRow.holds Tryd.pinned (OpenSpec.ofChange orderReducedWrong)

/-- 'majordomolaw10.OrderNumbers': WHATEVER THE INPUT: true; the input reads as it did. -/
def orderNumbersSpec : ChangeSpec := { name := "orderNumbers", fn := fun _ => fun
  | [d1, d2, d3, d4, d5] => { results := [.lit (.bool true)], args := [d1, d2, d3, d4, d5] }
  | _ => none }
def orderNumbersRow : OpenClaim := { program := "yteeaccnklkcchaadoor", sum := "5696710bd79fe7515980328626b5e6259c5df3b0a023f5f9d81761150181decd", func := "majordomo/majordomolaw10.OrderNumbers", spec := "orderNumbers", unfollowed := true, recurses := true, named := ["math/bits.deBruijn32tab", "math/bits.deBruijn64tab"], apart := false, laid := [("math/bits.deBruijn32tab", laid_math_bits_deBruijn32tab), ("math/bits.deBruijn64tab", laid_math_bits_deBruijn64tab)] }
def OrderNumbersSaid : Prop := orderNumbersRow.holds Tryd.pinned (OpenSpec.ofChange orderNumbersSpec)

/-- ITS FALSE NEIGHBOUR: 'it returns false'. Refute it at one input. -/
def orderNumbersWrong : ChangeSpec := { name := "orderNumbers", fn := fun _ => fun
  | [d1, d2, d3, d4, d5] => { results := [.lit (.bool false)], args := [d1, d2, d3, d4, d5] }
  | _ => none }
def OrderNumbersWrongFalsely : Prop := orderNumbersRow.holds Tryd.pinned (OpenSpec.ofChange orderNumbersWrong)

/- THE SECOND FORM. 'bulk': how many values and letters a reading holds, each counted each time it is reached (what is shared counts as often as it is met; a slice's spare places count too). A statement '..UptoSaid' is the law's where the arguments, and the package variables that the reading takes, are together of bulk at most 1048576: NARROWER than '..Said'. Prove '..Said' where nothing that the law and all that it calls make is longer than what came in: it says more and counts as full. Else prove '..UptoSaid'. A law counts once. -/
mutual
def uptoBulk {H : Type} : DataW H → Nat
  | .lit (.string bytes) => bytes.length + 1
  | .lit _ => 1
  | .nil => 1
  | .ptr d => uptoBulk d + 1
  | .slice elems spare => uptoBulkAll elems + uptoBulkAll spare + 1
  | .agg parts => uptoBulkAll parts + 1
  | .iface _ d => uptoBulk d + 1
  | .map entries => uptoBulkEntries entries + 1
  | .held _ => 1
def uptoBulkAll {H : Type} : List (DataW H) → Nat
  | [] => 0
  | d :: r => uptoBulk d + uptoBulkAll r
def uptoBulkEntries {H : Type} : List (Lit × DataW H) → Nat
  | [] => 0
  | x :: r => uptoBulkEntry x + uptoBulkEntries r
def uptoBulkEntry {H : Type} : Lit × DataW H → Nat
  | (.string bytes, d) => bytes.length + uptoBulk d + 1
  | (_, d) => uptoBulk d + 1
 end
def uptoSmall : (H : Type) → List (DataW H) → Bool := fun _ ds => decide (uptoBulkAll ds ≤ 1048576)
def OpenSpec.upto (s : _root_.Go.ChangeSpec) : _root_.Go.OpenSpec := { _root_.Go.OpenSpec.ofChange s with cond := some uptoSmall }

/-- 'majordomolaw10.OrderKnown', WHERE WHAT IT READS IS OF BULK AT MOST 1048576: true; the input reads as it did. -/
def orderKnownUptoRow : OpenClaim := { program := "yteeaccnklkcchaadoor", sum := "5696710bd79fe7515980328626b5e6259c5df3b0a023f5f9d81761150181decd", func := "majordomo/majordomolaw10.OrderKnown", spec := "orderKnown", unfollowed := true, recurses := true, named := ["math/bits.deBruijn32tab", "math/bits.deBruijn64tab"], apart := false, laid := [("math/bits.deBruijn32tab", laid_math_bits_deBruijn32tab), ("math/bits.deBruijn64tab", laid_math_bits_deBruijn64tab)], narrowed := true }
def OrderKnownUptoSaid : Prop := orderKnownUptoRow.holds Tryd.pinned (OpenSpec.upto orderKnownSpec)

/-- 'majordomolaw10.OrderShapes', WHERE WHAT IT READS IS OF BULK AT MOST 1048576: true; the input reads as it did. -/
def orderShapesUptoRow : OpenClaim := { program := "yteeaccnklkcchaadoor", sum := "5696710bd79fe7515980328626b5e6259c5df3b0a023f5f9d81761150181decd", func := "majordomo/majordomolaw10.OrderShapes", spec := "orderShapes", unfollowed := true, recurses := true, named := ["math/bits.deBruijn32tab", "math/bits.deBruijn64tab"], apart := false, laid := [("math/bits.deBruijn32tab", laid_math_bits_deBruijn32tab), ("math/bits.deBruijn64tab", laid_math_bits_deBruijn64tab)], narrowed := true }
def OrderShapesUptoSaid : Prop := orderShapesUptoRow.holds Tryd.pinned (OpenSpec.upto orderShapesSpec)

/-- 'majordomolaw10.OrderIdeals', WHERE WHAT IT READS IS OF BULK AT MOST 1048576: true; the input reads as it did. -/
def orderIdealsUptoRow : OpenClaim := { program := "yteeaccnklkcchaadoor", sum := "5696710bd79fe7515980328626b5e6259c5df3b0a023f5f9d81761150181decd", func := "majordomo/majordomolaw10.OrderIdeals", spec := "orderIdeals", unfollowed := true, recurses := true, named := ["math/bits.deBruijn32tab", "math/bits.deBruijn64tab"], apart := false, laid := [("math/bits.deBruijn32tab", laid_math_bits_deBruijn32tab), ("math/bits.deBruijn64tab", laid_math_bits_deBruijn64tab)], narrowed := true }
def OrderIdealsUptoSaid : Prop := orderIdealsUptoRow.holds Tryd.pinned (OpenSpec.upto orderIdealsSpec)

/-- 'majordomolaw10.OrderLines', WHERE WHAT IT READS IS OF BULK AT MOST 1048576: true; the input reads as it did. -/
def orderLinesUptoRow : OpenClaim := { program := "yteeaccnklkcchaadoor", sum := "5696710bd79fe7515980328626b5e6259c5df3b0a023f5f9d81761150181decd", func := "majordomo/majordomolaw10.OrderLines", spec := "orderLines", unfollowed := true, recurses := true, named := ["math/bits.deBruijn32tab", "math/bits.deBruijn64tab"], apart := false, laid := [("math/bits.deBruijn32tab", laid_math_bits_deBruijn32tab), ("math/bits.deBruijn64tab", laid_math_bits_deBruijn64tab)], narrowed := true }
def OrderLinesUptoSaid : Prop := orderLinesUptoRow.holds Tryd.pinned (OpenSpec.upto orderLinesSpec)

/-- 'majordomolaw10.OrderSizes', WHERE WHAT IT READS IS OF BULK AT MOST 1048576: true; the input reads as it did. -/
def orderSizesUptoRow : OpenClaim := { program := "yteeaccnklkcchaadoor", sum := "5696710bd79fe7515980328626b5e6259c5df3b0a023f5f9d81761150181decd", func := "majordomo/majordomolaw10.OrderSizes", spec := "orderSizes", unfollowed := true, recurses := true, named := ["math/bits.deBruijn32tab", "math/bits.deBruijn64tab"], apart := false, laid := [("math/bits.deBruijn32tab", laid_math_bits_deBruijn32tab), ("math/bits.deBruijn64tab", laid_math_bits_deBruijn64tab)], narrowed := true }
def OrderSizesUptoSaid : Prop := orderSizesUptoRow.holds Tryd.pinned (OpenSpec.upto orderSizesSpec)

/-- 'majordomolaw10.OrderBegins', WHERE WHAT IT READS IS OF BULK AT MOST 1048576: true; the input reads as it did. -/
def orderBeginsUptoRow : OpenClaim := { program := "yteeaccnklkcchaadoor", sum := "5696710bd79fe7515980328626b5e6259c5df3b0a023f5f9d81761150181decd", func := "majordomo/majordomolaw10.OrderBegins", spec := "orderBegins", unfollowed := true, recurses := true, named := ["math/bits.deBruijn32tab", "math/bits.deBruijn64tab"], apart := false, laid := [("math/bits.deBruijn32tab", laid_math_bits_deBruijn32tab), ("math/bits.deBruijn64tab", laid_math_bits_deBruijn64tab)], narrowed := true }
def OrderBeginsUptoSaid : Prop := orderBeginsUptoRow.holds Tryd.pinned (OpenSpec.upto orderBeginsSpec)

/-- 'majordomolaw10.OrderDilworth', WHERE WHAT IT READS IS OF BULK AT MOST 1048576: true; the input reads as it did. -/
def orderDilworthUptoRow : OpenClaim := { program := "yteeaccnklkcchaadoor", sum := "5696710bd79fe7515980328626b5e6259c5df3b0a023f5f9d81761150181decd", func := "majordomo/majordomolaw10.OrderDilworth", spec := "orderDilworth", unfollowed := true, recurses := true, named := ["math/bits.deBruijn32tab", "math/bits.deBruijn64tab"], apart := false, laid := [("math/bits.deBruijn32tab", laid_math_bits_deBruijn32tab), ("math/bits.deBruijn64tab", laid_math_bits_deBruijn64tab)], narrowed := true }
def OrderDilworthUptoSaid : Prop := orderDilworthUptoRow.holds Tryd.pinned (OpenSpec.upto orderDilworthSpec)

/-- 'majordomolaw10.OrderReduced', WHERE WHAT IT READS IS OF BULK AT MOST 1048576: true; the input reads as it did. -/
def orderReducedUptoRow : OpenClaim := { program := "yteeaccnklkcchaadoor", sum := "5696710bd79fe7515980328626b5e6259c5df3b0a023f5f9d81761150181decd", func := "majordomo/majordomolaw10.OrderReduced", spec := "orderReduced", unfollowed := true, recurses := true, named := ["math/bits.deBruijn32tab", "math/bits.deBruijn64tab"], apart := false, laid := [("math/bits.deBruijn32tab", laid_math_bits_deBruijn32tab), ("math/bits.deBruijn64tab", laid_math_bits_deBruijn64tab)], narrowed := true }
def OrderReducedUptoSaid : Prop := orderReducedUptoRow.holds Tryd.pinned (OpenSpec.upto orderReducedSpec)

/-- 'majordomolaw10.OrderNumbers', WHERE WHAT IT READS IS OF BULK AT MOST 1048576: true; the input reads as it did. -/
def orderNumbersUptoRow : OpenClaim := { program := "yteeaccnklkcchaadoor", sum := "5696710bd79fe7515980328626b5e6259c5df3b0a023f5f9d81761150181decd", func := "majordomo/majordomolaw10.OrderNumbers", spec := "orderNumbers", unfollowed := true, recurses := true, named := ["math/bits.deBruijn32tab", "math/bits.deBruijn64tab"], apart := false, laid := [("math/bits.deBruijn32tab", laid_math_bits_deBruijn32tab), ("math/bits.deBruijn64tab", laid_math_bits_deBruijn64tab)], narrowed := true }
def OrderNumbersUptoSaid : Prop := orderNumbersUptoRow.holds Tryd.pinned (OpenSpec.upto orderNumbersSpec)

end Rows
end Go.Proofs.YteeaccnklkcchaaDoor
