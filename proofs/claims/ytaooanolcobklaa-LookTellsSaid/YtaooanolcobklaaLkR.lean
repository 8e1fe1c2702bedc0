/-
  LookTells, with its arguments as they are read.
-/
import Derived.Test.YtaooanolcobklaaLkO
import Derived.Test.YtaooanolcobklaaLk11
namespace Go.Proofs.Ytaooanolcobklaa
open Go Go.Ab Go.Lk
set_option linter.unusedVariables false
set_option linter.unusedSimpArgs false
theorem tel_fin (w : Ws) (hw : w.length ≤ maxLen ∧ ∀ a, a ∈ w → a.length ≤ maxLen ∧ ∀ x, x ∈ a → okI x) (ids : List Int) (_ : ids.length ≤ maxLen ∧ ∀ a, a ∈ ids → okI a) (place : Int) (_ : okI place) (id : Int) (_ : okI id) :
    ACall Try.prog 4 [worldsA w, .rowE (ints ids) 1, .i place, .i id] [] (.b true) [] := tells_fin w hw ids place id
end Go.Proofs.Ytaooanolcobklaa
