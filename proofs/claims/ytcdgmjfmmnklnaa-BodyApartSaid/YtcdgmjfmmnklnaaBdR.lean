/-
  BodyApart, with its arguments as they are read.
-/
import Derived.Test.YtcdgmjfmmnklnaaBdO
import Derived.Test.YtcdgmjfmmnklnaaBdL
namespace Go.Proofs.Ytcdgmjfmmnklnaa
open Go Go.Ab Go.Fl
set_option linter.unusedVariables false
set_option linter.unusedSimpArgs false
theorem apart_fin (s : Sit) (_ : True) (st : Stt) (_ : True) : ACall Try.prog 3 [.agg (sitA s), .agg (sttA st)] [] (.b true) [] := apart_law s st
end Go.Proofs.Ytcdgmjfmmnklnaa
