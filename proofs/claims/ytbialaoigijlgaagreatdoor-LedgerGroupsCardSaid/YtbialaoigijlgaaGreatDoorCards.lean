/-
  DERIVED. GIVEN WITH THE SEED: THE CARDS: each row of YtbialaoigijlgaaGreatDoorRows.lean that lists a variable, with what it lists TIED to the program's text (the seventh form; the later family's looks); each row that meets fmt, with fmt's text TOLD by the authors' own Lean function (tested against real Go, not proved from fmt's source: count such statements apart). THE CARD IS WHAT COUNTS. Prove the row's statement (the work); the ties are given (YtbialaoigijlgaaGreatDoorTie.lean); close each card by the builder's one call (the guide's Derived/Test/ToyasCard.lean, 'card_holds'). Laid BY PROGRAM, IN A SANDBOX (cutbox-door.mjs). By AI agents, Wed Nov 11 2026. No macro, syntax, notation, axiom, sorry.
-/
import Derived.Test.YtbialaoigijlgaaGreatDoorRows
import GoSem.ClaimSeven
namespace Go.Proofs.YtbialaoigijlgaaGreatDoor
namespace Rows

/-- THE TIED CARD OF 'taquinlaw39.LedgerFull'. -/
def ledgerFullCard : Claim7 := { stood := { row := ledgerFullRow, standIns := [], harness := (true, "b6dc86abb53e6bcf8e6a131f844d27eb1cea65e9b7e4f18bd9f607b5b2ed16b2"), looks := false }, kinds := [], alts := [], laidByText := true, laidKinds := [.data, .data, .data], laidTests := true, laidLooks := .later }
def LedgerFullCardSaid : Prop := Claim7.holds Tryz.pinned (.plain (OpenSpec.ofChange ledgerFullSpec)) ledgerFullCard

/-- THE TIED CARD OF 'taquinlaw39.LedgerGroups'. -/
def ledgerGroupsCard : Claim7 := { stood := { row := ledgerGroupsRow, standIns := [], harness := (true, "b6dc86abb53e6bcf8e6a131f844d27eb1cea65e9b7e4f18bd9f607b5b2ed16b2"), looks := false }, kinds := [], alts := [], laidByText := true, laidKinds := [.data, .data, .data], laidTests := true, laidLooks := .later }
def LedgerGroupsCardSaid : Prop := Claim7.holds Tryz.pinned (.plain (OpenSpec.ofChange ledgerGroupsSpec)) ledgerGroupsCard

/-- THE SECOND FORM's CARD OF 'taquinlaw39.LedgerFull'. -/
def ledgerFullUptoCard : Claim7 := { stood := { row := ledgerFullUptoRow, standIns := [], harness := (true, "b6dc86abb53e6bcf8e6a131f844d27eb1cea65e9b7e4f18bd9f607b5b2ed16b2"), looks := false }, kinds := [], alts := [], laidByText := true, laidKinds := [.data, .data, .data], laidTests := true, laidLooks := .later }
def LedgerFullUptoCardSaid : Prop := Claim7.holds Tryz.pinned (.plain (OpenSpec.upto ledgerFullSpec)) ledgerFullUptoCard

/-- THE SECOND FORM's CARD OF 'taquinlaw39.LedgerGroups'. -/
def ledgerGroupsUptoCard : Claim7 := { stood := { row := ledgerGroupsUptoRow, standIns := [], harness := (true, "b6dc86abb53e6bcf8e6a131f844d27eb1cea65e9b7e4f18bd9f607b5b2ed16b2"), looks := false }, kinds := [], alts := [], laidByText := true, laidKinds := [.data, .data, .data], laidTests := true, laidLooks := .later }
def LedgerGroupsUptoCardSaid : Prop := Claim7.holds Tryz.pinned (.plain (OpenSpec.upto ledgerGroupsSpec)) ledgerGroupsUptoCard
end Rows
end Go.Proofs.YtbialaoigijlgaaGreatDoor
