/-
  SightAfter, in the arguments' own form.
-/
import Derived.Test.YtnpedigoacbocaaSgO2
import Derived.Test.YtnpedigoacbocaaSg14
namespace Go.Proofs.Ytnpedigoacbocaa
open Go Go.Ab
set_option linter.unusedVariables false
set_option linter.unusedSimpArgs false
attribute [local irreducible] VC AW FStep ACall
theorem safter_fin (x : List KD × List LT × List Int × List BX) (_ : True) (c : Int × Int × Int × Int) (_ : okI c.1 ∧ okI c.2.1 ∧ okI c.2.2.1 ∧ okI c.2.2.2) (s : Int × Int × Int × Int × List Int) (hs : s.2.2.2.2.length ≤ maxLen) (o : Int) (_ : okI o) :
    ACall Try.prog 5 [storeA x.1 x.2.1 x.2.2.1 x.2.2.2, sensesA c.1 c.2.1 c.2.2.1 c.2.2.2, sightA s.1 s.2.1 s.2.2.1 s.2.2.2.1 s.2.2.2.2, .i o] [] (.b true) [] := safter_c _ _ _ _ _ _ _ _ _ _ _ _ _ _ (by simpa [maxLen] using hs)
end Go.Proofs.Ytnpedigoacbocaa
