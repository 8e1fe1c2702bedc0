/-
  DERIVED. GIVEN WITH THE SEED: THE CARDS: each row of YtjjfjhkbmdbhkaaGreatDoorRows.lean that lists a variable, with what it lists TIED to the program's text (the seventh form; the later family's looks); each row that meets fmt, with fmt's text TOLD by the authors' own Lean function (tested against real Go, not proved from fmt's source: count such statements apart). THE CARD IS WHAT COUNTS. Prove the row's statement (the work); the ties are given (YtjjfjhkbmdbhkaaGreatDoorTie.lean); close each card by the builder's one call (the guide's Derived/Test/ToyasCard.lean, 'card_holds'). Laid BY PROGRAM, IN A SANDBOX (cutbox-door.mjs). By AI agents, Wed Nov 11 2026. No macro, syntax, notation, axiom, sorry.
-/
import Derived.Test.YtjjfjhkbmdbhkaaGreatDoorRows
import GoSem.ClaimSeven
namespace Go.Proofs.YtjjfjhkbmdbhkaaGreatDoor
namespace Rows

/-- THE TIED CARD OF 'taquinlaw41.TraceTells'. -/
def traceTellsCard : Claim7 := { stood := { row := traceTellsRow, standIns := [], harness := (true, "425bfa655bb7ab34d215222aa742d197c7d0117256bd56ffdccfd87d6adebec4"), looks := true }, kinds := [], alts := [], laidByText := true, laidKinds := [.data, .data, .data], laidTests := true, laidLooks := .later }
def TraceTellsCardSaid : Prop := Claim7.holds Tryz.pinned (.plain (OpenSpec.ofChange traceTellsSpec)) traceTellsCard

/-- THE TIED CARD OF 'taquinlaw41.TraceRecalls'. -/
def traceRecallsCard : Claim7 := { stood := { row := traceRecallsRow, standIns := [], harness := (true, "425bfa655bb7ab34d215222aa742d197c7d0117256bd56ffdccfd87d6adebec4"), looks := true }, kinds := [], alts := [], laidByText := true, laidKinds := [.data, .data, .data, .sentinel, .sentinel], laidTests := true, laidLooks := .later }
def TraceRecallsCardSaid : Prop := Claim7.holds Tryz.pinned (.plain (OpenSpec.ofChange traceRecallsSpec)) traceRecallsCard

/-- THE SECOND FORM's CARD OF 'taquinlaw41.TraceTells'. -/
def traceTellsUptoCard : Claim7 := { stood := { row := traceTellsUptoRow, standIns := [], harness := (true, "425bfa655bb7ab34d215222aa742d197c7d0117256bd56ffdccfd87d6adebec4"), looks := true }, kinds := [], alts := [], laidByText := true, laidKinds := [.data, .data, .data], laidTests := true, laidLooks := .later }
def TraceTellsUptoCardSaid : Prop := Claim7.holds Tryz.pinned (.plain (OpenSpec.upto traceTellsSpec)) traceTellsUptoCard

/-- THE SECOND FORM's CARD OF 'taquinlaw41.TraceRecalls'. -/
def traceRecallsUptoCard : Claim7 := { stood := { row := traceRecallsUptoRow, standIns := [], harness := (true, "425bfa655bb7ab34d215222aa742d197c7d0117256bd56ffdccfd87d6adebec4"), looks := true }, kinds := [], alts := [], laidByText := true, laidKinds := [.data, .data, .data, .sentinel, .sentinel], laidTests := true, laidLooks := .later }
def TraceRecallsUptoCardSaid : Prop := Claim7.holds Tryz.pinned (.plain (OpenSpec.upto traceRecallsSpec)) traceRecallsUptoCard
end Rows
end Go.Proofs.YtjjfjhkbmdbhkaaGreatDoor
