/-
  LookFewer, with its arguments as they are read.
-/
import Derived.Test.YtaooanolcobklaaLkO
import Derived.Test.YtaooanolcobklaaLk7
namespace Go.Proofs.Ytaooanolcobklaa
open Go Go.Ab Go.Lk
set_option linter.unusedVariables false
set_option linter.unusedSimpArgs false
theorem fewer_fin (w : Ws) (hw : w.length ≤ maxLen ∧ ∀ a, a ∈ w → a.length ≤ maxLen ∧ ∀ x, x ∈ a → okI x) (ids : List Int) (_ : ids.length ≤ maxLen ∧ ∀ a, a ∈ ids → okI a) (bits : Int) (_ : okI bits) :
    ACall Try.prog 3 [worldsA w, .rowE (ints ids) 1, .i bits] [] (.b true) [] := by
  cases h : givenB w ids with
  | false => exact fewer_not bits h
  | true => exact fewer_in bits h fun b hb x hx => wf_rng.1 ((hw.2 b hb).2 x hx)
end Go.Proofs.Ytaooanolcobklaa
