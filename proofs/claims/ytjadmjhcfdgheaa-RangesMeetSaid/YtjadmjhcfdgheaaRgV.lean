/-
  RangesMeet, at what the row reads.
-/
import Derived.Test.YtjadmjhcfdgheaaRgO
import Derived.Test.YtjadmjhcfdgheaaRg6d
namespace Go.Proofs.Ytjadmjhcfdgheaa
open Go Go.Ab
set_option linter.unusedVariables false
set_option linter.unusedSimpArgs false
theorem meet_fin (p : Int × Int) (_ : okI p.1 ∧ okI p.2) (q : Int × Int) (_ : okI q.1 ∧ okI q.2) (n : Int) (_ : okI n) (m : Int) (_ : okI m) :
    ACall Try.prog 5 [spanA p.1 p.2, spanA q.1 q.2, .i n, .i m] [] (.b true) [] := meet_c p.1 p.2 q.1 q.2 n m
end Go.Proofs.Ytjadmjhcfdgheaa
