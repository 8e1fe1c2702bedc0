/-
  DERIVED. GIVEN WITH THE SEED: THE CARDS: each row of YtjpcpbbkelgkeaaGreatDoorRows.lean that lists a variable, with what it lists TIED to the program's text (the seventh form; the later family's looks); each row that meets fmt, with fmt's text TOLD by the authors' own Lean function (tested against real Go, not proved from fmt's source: count such statements apart). THE CARD IS WHAT COUNTS. Prove the row's statement (the work); the ties are given (YtjpcpbbkelgkeaaGreatDoorTie.lean); close each card by the builder's one call (the guide's Derived/Test/ToyasCard.lean, 'card_holds'). Laid BY PROGRAM, IN A SANDBOX (cutbox-door.mjs). By AI agents, Wed Nov 11 2026. No macro, syntax, notation, axiom, sorry.
-/
import Derived.Test.YtjpcpbbkelgkeaaGreatDoorRows
import GoSem.ClaimSeven
namespace Go.Proofs.YtjpcpbbkelgkeaaGreatDoor
namespace Rows

/-- THE TIED CARD OF 'taquinlaw46.LaneBack'. -/
def laneBackCard : Claim7 := { stood := { row := laneBackRow, standIns := [], harness := (true, "49bf334c650d363b785d9b76087f5127ee9a3736f553c8ee096a30785e9f367b"), looks := true }, kinds := [], alts := [], laidByText := true, laidKinds := [.data, .data, .data, .sentinel, .sentinel], laidTests := true, laidLooks := .later }
def LaneBackCardSaid : Prop := Claim7.holds Tryz.pinned (.plain (OpenSpec.ofChange laneBackSpec)) laneBackCard

/-- THE SECOND FORM's CARD OF 'taquinlaw46.LaneBack'. -/
def laneBackUptoCard : Claim7 := { stood := { row := laneBackUptoRow, standIns := [], harness := (true, "49bf334c650d363b785d9b76087f5127ee9a3736f553c8ee096a30785e9f367b"), looks := true }, kinds := [], alts := [], laidByText := true, laidKinds := [.data, .data, .data, .sentinel, .sentinel], laidTests := true, laidLooks := .later }
def LaneBackUptoCardSaid : Prop := Claim7.holds Tryz.pinned (.plain (OpenSpec.upto laneBackSpec)) laneBackUptoCard
end Rows
end Go.Proofs.YtjpcpbbkelgkeaaGreatDoor
