/-
  RangesPick, at what the row reads.
-/
import Derived.Test.YtjadmjhcfdgheaaRgO
import Derived.Test.YtjadmjhcfdgheaaRg9
namespace Go.Proofs.Ytjadmjhcfdgheaa
open Go Go.Ab
set_option linter.unusedVariables false
set_option linter.unusedSimpArgs false
theorem pick_fin (p : Int × Int) (_ : okI p.1 ∧ okI p.2) (n : Int) (_ : okI n) (s : Int) (_ : okI s) :
    ACall Try.prog 3 [spanA p.1 p.2, .i n, .i s] [] (.b true) [] := pick_c p.1 p.2 n s
end Go.Proofs.Ytjadmjhcfdgheaa
