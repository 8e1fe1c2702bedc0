/-
  HoldTells, with what is known of its arguments.
-/
import Derived.Test.YtgnnbmgljadokaaGreatDoorHoU
import Derived.Test.YtgnnbmgljadokaaGreatDoorHqE
namespace Go.Proofs.YtgnnbmgljadokaaGreatDoor
open Go Go.Ab Go.ChangeShapes Go.WideShapes Go.ChangeAt Go.RowKit
set_option linter.unusedVariables false
set_option linter.unusedSimpArgs false
theorem tells_fin (l : List OP) (h : OpOk l) (o : Int) (_ : okI o) (n : Int) (_ : okI n) (s : List UInt8) (_ : s.length ≤ maxLen) :
    ACall Tryz.prog 4 [.rowE (opsA l) 4, .i o, .i n, .s s] [] (.b true) [] := tells_c l h.len h.i64 o n s
end Go.Proofs.YtgnnbmgljadokaaGreatDoor
