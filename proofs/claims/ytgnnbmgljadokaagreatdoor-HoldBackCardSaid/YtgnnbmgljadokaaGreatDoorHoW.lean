/-
  HoldBack, with what is known of its arguments.
-/
import Derived.Test.YtgnnbmgljadokaaGreatDoorHoU
import Derived.Test.YtgnnbmgljadokaaGreatDoorHoT
namespace Go.Proofs.YtgnnbmgljadokaaGreatDoor
open Go Go.Ab Go.ChangeShapes Go.WideShapes Go.ChangeAt Go.RowKit
set_option linter.unusedVariables false
set_option linter.unusedSimpArgs false
theorem back_fin (l : List OP) (h : OpOk l) (q : List OP) (hq : OpOk q) (s : List UInt8) (_ : s.length ≤ maxLen) :
    ACall Tryz.prog 3 [.rowE (opsA l) 4, .rowE (opsA q) 4, .s s] [] (.b true) [] := back_c l h.len h.i64 q hq.len hq.i64 s
end Go.Proofs.YtgnnbmgljadokaaGreatDoor
