/-
  LookDecides, with its arguments as they are read.
-/
import Derived.Test.YtaooanolcobklaaLkO
import Derived.Test.YtaooanolcobklaaLk9
namespace Go.Proofs.Ytaooanolcobklaa
open Go Go.Ab Go.Lk
set_option linter.unusedVariables false
set_option linter.unusedSimpArgs false
theorem dec_fin (w : Ws) (hw : w.length ≤ maxLen ∧ ∀ a, a ∈ w → a.length ≤ maxLen ∧ ∀ x, x ∈ a → okI x) (ids : List Int) (_ : ids.length ≤ maxLen ∧ ∀ a, a ∈ ids → okI a) (wh : Int) (_ : okI wh) :
    ACall Try.prog 5 [worldsA w, .rowE (ints ids) 1, .i wh] [] (.b true) [] := decides_fin w hw ids wh
end Go.Proofs.Ytaooanolcobklaa
