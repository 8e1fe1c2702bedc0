/-
  DERIVED. GIVEN WITH THE SEED: THE CARDS: each row of YtnpedigoacbocaaDoorRows.lean that lists a variable, with what it lists TIED to the program's text (the seventh form; the later family's looks); each row that meets fmt, with fmt's text TOLD by the authors' own Lean function (tested against real Go, not proved from fmt's source: count such statements apart). THE CARD IS WHAT COUNTS. Prove the row's statement (the work); the ties are given (YtnpedigoacbocaaDoorTie.lean); close each card by the builder's one call (the guide's Derived/Test/ToyasCard.lean, 'card_holds'). Laid BY PROGRAM, IN A SANDBOX (cutbox-door.mjs). By AI agents, Wed Nov 11 2026. No macro, syntax, notation, axiom, sorry.
-/
import Derived.Test.YtnpedigoacbocaaDoorRows
import GoSem.ClaimSeven
namespace Go.Proofs.YtnpedigoacbocaaDoor
namespace Rows

/-- THE TIED CARD OF 'taquinlaw36.SightBack'. -/
def sightBackCard : Claim7 := { stood := { row := sightBackRow, standIns := [], harness := (true, "9487866fd30a14abcadbe1545e00bff526c167828771927ee96cc64424e51f10"), looks := true }, kinds := [], alts := [], laidByText := true, laidKinds := [.data, .data, .data, .sentinel, .sentinel], laidTests := true, laidLooks := .later }
def SightBackCardSaid : Prop := Claim7.holds Tryd.pinned (.plain (OpenSpec.ofChange sightBackSpec)) sightBackCard

/-- THE SECOND FORM's CARD OF 'taquinlaw36.SightBack'. -/
def sightBackUptoCard : Claim7 := { stood := { row := sightBackUptoRow, standIns := [], harness := (true, "9487866fd30a14abcadbe1545e00bff526c167828771927ee96cc64424e51f10"), looks := true }, kinds := [], alts := [], laidByText := true, laidKinds := [.data, .data, .data, .sentinel, .sentinel], laidTests := true, laidLooks := .later }
def SightBackUptoCardSaid : Prop := Claim7.holds Tryd.pinned (.plain (OpenSpec.upto sightBackSpec)) sightBackUptoCard
end Rows
end Go.Proofs.YtnpedigoacbocaaDoor
