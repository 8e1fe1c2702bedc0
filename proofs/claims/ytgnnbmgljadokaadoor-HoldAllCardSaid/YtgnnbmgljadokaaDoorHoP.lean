/-
  HoldAll, with what is known of its arguments.
-/
import Derived.Test.YtgnnbmgljadokaaDoorHoO
import Derived.Test.YtgnnbmgljadokaaDoorHoG
namespace Go.Proofs.YtgnnbmgljadokaaDoor
open Go Go.Ab Go.ChangeShapes Go.WideShapes Go.ChangeAt Go.RowKit
set_option linter.unusedVariables false
set_option linter.unusedSimpArgs false
theorem all_fin (l : List OP) (h : OpOk l) (x : OP) (hx : okI x.1 ∧ okI x.2.1 ∧ okI x.2.2.1 ∧ x.2.2.2.length ≤ maxLen) (o : Int) (ho : okI o) :
    ACall Tryd.prog 3 [.rowE (opsA l) 4, .agg (opA x), .i o] [] (.b true) [] := all_c l h.len h.i64 x ⟨okI_I64 hx.2.1, okI_I64 hx.2.2.1⟩ o (okI_I64 ho)
end Go.Proofs.YtgnnbmgljadokaaDoor
