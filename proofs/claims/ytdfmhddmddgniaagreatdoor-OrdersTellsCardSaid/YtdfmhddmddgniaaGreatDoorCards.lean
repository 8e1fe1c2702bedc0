/-
  DERIVED. GIVEN WITH THE SEED: THE CARDS: each row of YtdfmhddmddgniaaGreatDoorRows.lean that lists a variable, with what it lists TIED to the program's text (the seventh form; the later family's looks); each row that meets fmt, with fmt's text TOLD by the authors' own Lean function (tested against real Go, not proved from fmt's source: count such statements apart). THE CARD IS WHAT COUNTS. Prove the row's statement (the work); the ties are given (YtdfmhddmddgniaaGreatDoorTie.lean); close each card by the builder's one call (the guide's Derived/Test/ToyasCard.lean, 'card_holds'). Laid BY PROGRAM, IN A SANDBOX (cutbox-door.mjs). By AI agents, Wed Nov 11 2026. No macro, syntax, notation, axiom, sorry.
-/
import Derived.Test.YtdfmhddmddgniaaGreatDoorRows
import GoSem.ClaimSeven
namespace Go.Proofs.YtdfmhddmddgniaaGreatDoor
namespace Rows

/-- THE TIED CARD OF 'taquinlaw42.OrdersTells'. -/
def ordersTellsCard : Claim7 := { stood := { row := ordersTellsRow, standIns := [], harness := (true, "58be773257831e80eacbb182d57ce94e2873e828fe03a3fca38d8010b80981c2"), looks := true }, kinds := [], alts := [], laidByText := true, laidKinds := [.data, .data, .data, .sentinel, .sentinel], laidTests := true, laidLooks := .later }
def OrdersTellsCardSaid : Prop := Claim7.holds Tryz.pinned (.plain (OpenSpec.ofChange ordersTellsSpec)) ordersTellsCard

/-- THE TIED CARD OF 'taquinlaw42.OrdersSure'. -/
def ordersSureCard : Claim7 := { stood := { row := ordersSureRow, standIns := [], harness := (true, "58be773257831e80eacbb182d57ce94e2873e828fe03a3fca38d8010b80981c2"), looks := true }, kinds := [], alts := [], laidByText := true, laidKinds := [.data, .data, .data, .sentinel, .sentinel], laidTests := true, laidLooks := .later }
def OrdersSureCardSaid : Prop := Claim7.holds Tryz.pinned (.plain (OpenSpec.ofChange ordersSureSpec)) ordersSureCard

/-- THE SECOND FORM's CARD OF 'taquinlaw42.OrdersTells'. -/
def ordersTellsUptoCard : Claim7 := { stood := { row := ordersTellsUptoRow, standIns := [], harness := (true, "58be773257831e80eacbb182d57ce94e2873e828fe03a3fca38d8010b80981c2"), looks := true }, kinds := [], alts := [], laidByText := true, laidKinds := [.data, .data, .data, .sentinel, .sentinel], laidTests := true, laidLooks := .later }
def OrdersTellsUptoCardSaid : Prop := Claim7.holds Tryz.pinned (.plain (OpenSpec.upto ordersTellsSpec)) ordersTellsUptoCard

/-- THE SECOND FORM's CARD OF 'taquinlaw42.OrdersSure'. -/
def ordersSureUptoCard : Claim7 := { stood := { row := ordersSureUptoRow, standIns := [], harness := (true, "58be773257831e80eacbb182d57ce94e2873e828fe03a3fca38d8010b80981c2"), looks := true }, kinds := [], alts := [], laidByText := true, laidKinds := [.data, .data, .data, .sentinel, .sentinel], laidTests := true, laidLooks := .later }
def OrdersSureUptoCardSaid : Prop := Claim7.holds Tryz.pinned (.plain (OpenSpec.upto ordersSureSpec)) ordersSureUptoCard
end Rows
end Go.Proofs.YtdfmhddmddgniaaGreatDoor
