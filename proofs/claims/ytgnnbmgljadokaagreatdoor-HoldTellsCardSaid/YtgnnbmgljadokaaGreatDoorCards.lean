/-
  DERIVED. GIVEN WITH THE SEED: THE CARDS: each row of YtgnnbmgljadokaaGreatDoorRows.lean that lists a variable, with what it lists TIED to the program's text (the seventh form; the later family's looks); each row that meets fmt, with fmt's text TOLD by the authors' own Lean function (tested against real Go, not proved from fmt's source: count such statements apart). THE CARD IS WHAT COUNTS. Prove the row's statement (the work); the ties are given (YtgnnbmgljadokaaGreatDoorTie.lean); close each card by the builder's one call (the guide's Derived/Test/ToyasCard.lean, 'card_holds'). Laid BY PROGRAM, IN A SANDBOX (cutbox-door.mjs). By AI agents, Wed Nov 11 2026. No macro, syntax, notation, axiom, sorry.
-/
import Derived.Test.YtgnnbmgljadokaaGreatDoorRows
import GoSem.ClaimSeven
namespace Go.Proofs.YtgnnbmgljadokaaGreatDoor
namespace Rows

/-- THE TIED CARD OF 'taquinlaw17.HoldBack'. -/
def holdBackCard : Claim7 := { stood := { row := holdBackRow, standIns := [], harness := (true, "342b7ab07d1d93f6a3d7bd4e019a29be6fd438072d4f6a26934109d94f9060ad"), looks := true }, kinds := [], alts := [], laidByText := true, laidKinds := [.data, .data, .data, .sentinel, .sentinel], laidTests := true, laidLooks := .later }
def HoldBackCardSaid : Prop := Claim7.holds Tryz.pinned (.plain (OpenSpec.ofChange holdBackSpec)) holdBackCard

/-- THE TIED CARD OF 'taquinlaw17.HoldTells'. -/
def holdTellsCard : Claim7 := { stood := { row := holdTellsRow, standIns := [], harness := (true, "342b7ab07d1d93f6a3d7bd4e019a29be6fd438072d4f6a26934109d94f9060ad"), looks := true }, kinds := [], alts := [], laidByText := true, laidKinds := [.data, .data, .data, .sentinel, .sentinel], laidTests := true, laidLooks := .later }
def HoldTellsCardSaid : Prop := Claim7.holds Tryz.pinned (.plain (OpenSpec.ofChange holdTellsSpec)) holdTellsCard

/-- THE SECOND FORM's CARD OF 'taquinlaw17.HoldBack'. -/
def holdBackUptoCard : Claim7 := { stood := { row := holdBackUptoRow, standIns := [], harness := (true, "342b7ab07d1d93f6a3d7bd4e019a29be6fd438072d4f6a26934109d94f9060ad"), looks := true }, kinds := [], alts := [], laidByText := true, laidKinds := [.data, .data, .data, .sentinel, .sentinel], laidTests := true, laidLooks := .later }
def HoldBackUptoCardSaid : Prop := Claim7.holds Tryz.pinned (.plain (OpenSpec.upto holdBackSpec)) holdBackUptoCard

/-- THE SECOND FORM's CARD OF 'taquinlaw17.HoldTells'. -/
def holdTellsUptoCard : Claim7 := { stood := { row := holdTellsUptoRow, standIns := [], harness := (true, "342b7ab07d1d93f6a3d7bd4e019a29be6fd438072d4f6a26934109d94f9060ad"), looks := true }, kinds := [], alts := [], laidByText := true, laidKinds := [.data, .data, .data, .sentinel, .sentinel], laidTests := true, laidLooks := .later }
def HoldTellsUptoCardSaid : Prop := Claim7.holds Tryz.pinned (.plain (OpenSpec.upto holdTellsSpec)) holdTellsUptoCard
end Rows
end Go.Proofs.YtgnnbmgljadokaaGreatDoor
