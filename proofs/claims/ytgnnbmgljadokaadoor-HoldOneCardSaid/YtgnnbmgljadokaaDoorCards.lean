/-
  DERIVED. GIVEN WITH THE SEED: THE CARDS: each row of YtgnnbmgljadokaaDoorRows.lean that lists a variable, with what it lists TIED to the program's text (the seventh form; the later family's looks); each row that meets fmt, with fmt's text TOLD by the authors' own Lean function (tested against real Go, not proved from fmt's source: count such statements apart). THE CARD IS WHAT COUNTS. Prove the row's statement (the work); the ties are given (YtgnnbmgljadokaaDoorTie.lean); close each card by the builder's one call (the guide's Derived/Test/ToyasCard.lean, 'card_holds'). Laid BY PROGRAM, IN A SANDBOX (cutbox-door.mjs). By AI agents, Wed Nov 11 2026. No macro, syntax, notation, axiom, sorry.
-/
import Derived.Test.YtgnnbmgljadokaaDoorRows
import GoSem.ClaimSeven
namespace Go.Proofs.YtgnnbmgljadokaaDoor
namespace Rows

/-- THE TIED CARD OF 'taquinlaw17.HoldAll'. -/
def holdAllCard : Claim7 := { stood := { row := holdAllRow, standIns := [], harness := (true, "dbd66f9ba60b7cbff2c5490b29e6d22021d2b3d89a9b9cc380434781125c50d9"), looks := true }, kinds := [], alts := [], laidByText := true, laidKinds := [.data, .data, .data], laidTests := true, laidLooks := .later }
def HoldAllCardSaid : Prop := Claim7.holds Tryd.pinned (.plain (OpenSpec.ofChange holdAllSpec)) holdAllCard

/-- THE TIED CARD OF 'taquinlaw17.HoldGives'. -/
def holdGivesCard : Claim7 := { stood := { row := holdGivesRow, standIns := [], harness := (true, "dbd66f9ba60b7cbff2c5490b29e6d22021d2b3d89a9b9cc380434781125c50d9"), looks := true }, kinds := [], alts := [], laidByText := true, laidKinds := [.data, .data, .data], laidTests := true, laidLooks := .later }
def HoldGivesCardSaid : Prop := Claim7.holds Tryd.pinned (.plain (OpenSpec.ofChange holdGivesSpec)) holdGivesCard

/-- THE TIED CARD OF 'taquinlaw17.HoldOne'. -/
def holdOneCard : Claim7 := { stood := { row := holdOneRow, standIns := [], harness := (true, "dbd66f9ba60b7cbff2c5490b29e6d22021d2b3d89a9b9cc380434781125c50d9"), looks := true }, kinds := [], alts := [], laidByText := true, laidKinds := [.data, .data, .data], laidTests := true, laidLooks := .later }
def HoldOneCardSaid : Prop := Claim7.holds Tryd.pinned (.plain (OpenSpec.ofChange holdOneSpec)) holdOneCard

/-- THE SECOND FORM's CARD OF 'taquinlaw17.HoldAll'. -/
def holdAllUptoCard : Claim7 := { stood := { row := holdAllUptoRow, standIns := [], harness := (true, "dbd66f9ba60b7cbff2c5490b29e6d22021d2b3d89a9b9cc380434781125c50d9"), looks := true }, kinds := [], alts := [], laidByText := true, laidKinds := [.data, .data, .data], laidTests := true, laidLooks := .later }
def HoldAllUptoCardSaid : Prop := Claim7.holds Tryd.pinned (.plain (OpenSpec.upto holdAllSpec)) holdAllUptoCard

/-- THE SECOND FORM's CARD OF 'taquinlaw17.HoldGives'. -/
def holdGivesUptoCard : Claim7 := { stood := { row := holdGivesUptoRow, standIns := [], harness := (true, "dbd66f9ba60b7cbff2c5490b29e6d22021d2b3d89a9b9cc380434781125c50d9"), looks := true }, kinds := [], alts := [], laidByText := true, laidKinds := [.data, .data, .data], laidTests := true, laidLooks := .later }
def HoldGivesUptoCardSaid : Prop := Claim7.holds Tryd.pinned (.plain (OpenSpec.upto holdGivesSpec)) holdGivesUptoCard

/-- THE SECOND FORM's CARD OF 'taquinlaw17.HoldOne'. -/
def holdOneUptoCard : Claim7 := { stood := { row := holdOneUptoRow, standIns := [], harness := (true, "dbd66f9ba60b7cbff2c5490b29e6d22021d2b3d89a9b9cc380434781125c50d9"), looks := true }, kinds := [], alts := [], laidByText := true, laidKinds := [.data, .data, .data], laidTests := true, laidLooks := .later }
def HoldOneUptoCardSaid : Prop := Claim7.holds Tryd.pinned (.plain (OpenSpec.upto holdOneSpec)) holdOneUptoCard
end Rows
end Go.Proofs.YtgnnbmgljadokaaDoor
