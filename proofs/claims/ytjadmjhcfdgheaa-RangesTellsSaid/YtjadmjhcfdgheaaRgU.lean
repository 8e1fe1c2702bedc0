/-
  RangesTells, at what the row reads.
-/
import Derived.Test.YtjadmjhcfdgheaaRgO
import Derived.Test.YtjadmjhcfdgheaaRg8c
namespace Go.Proofs.Ytjadmjhcfdgheaa
open Go Go.Ab
set_option linter.unusedVariables false
set_option linter.unusedSimpArgs false
theorem tells_fin (p : Int × Int) (_ : okI p.1 ∧ okI p.2) (q : Int × Int) (_ : okI q.1 ∧ okI q.2) (n : Int) (_ : okI n) (slip : Int) (_ : okI slip) (w : Int) (_ : okI w) (e : Int) (_ : okI e) (l : List (Int × Int)) (kl : l.length ≤ maxLen ∧ ∀ a, a ∈ l → okI a.1 ∧ okI a.2) :
    ACall Try.prog 7 [spanA p.1 p.2, spanA q.1 q.2, .i n, .i slip, .i w, .i e, .rowE (spans l) 2] [] (.b true) [] := by
  have h1 := kl.1
  unfold maxLen at h1
  exact tells_c p.1 p.2 q.1 q.2 n slip w e l (by omega)
end Go.Proofs.Ytjadmjhcfdgheaa
