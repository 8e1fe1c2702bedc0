/-
  HoldOne, with what is known of its argument.
-/
import Derived.Test.YtgnnbmgljadokaaDoorHoO
import Derived.Test.YtgnnbmgljadokaaDoorHoL
namespace Go.Proofs.YtgnnbmgljadokaaDoor
open Go Go.Ab Go.ChangeShapes Go.WideShapes Go.ChangeAt Go.RowKit
set_option linter.unusedVariables false
set_option linter.unusedSimpArgs false
theorem one_fin (l : List OP) (h : OpOk l) :
    ACall Tryd.prog 5 [.rowE (opsA l) 4] [] (.b true) [] := one_c l h.len h.i64
end Go.Proofs.YtgnnbmgljadokaaDoor
