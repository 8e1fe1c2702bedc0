/-
  BodyMoves, with its arguments as they are read.
-/
import Derived.Test.YtcdgmjfmmnklnaaBdO
import Derived.Test.YtcdgmjfmmnklnaaBdP
namespace Go.Proofs.Ytcdgmjfmmnklnaa
open Go Go.Ab Go.Fl
set_option linter.unusedVariables false
set_option linter.unusedSimpArgs false
theorem moves_fin (s : Sit) (_ : True) (st : Stt) (_ : True) (l : List Int) (_ : l.length ≤ maxLen ∧ ∀ a, a ∈ l → okI a) : ACall Try.prog 4 [.agg (sitA s), .agg (sttA st), .rowE (ints l) 1] [] (.b true) [] := moves_law s st l
end Go.Proofs.Ytcdgmjfmmnklnaa
