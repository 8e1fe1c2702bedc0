/-
  FloorDist, with its arguments as they are read.
-/
import Derived.Test.YtilcbhnhcmdhkaaFlO
import Derived.Test.YtilcbhnhcmdhkaaFl10
namespace Go.Proofs.Ytilcbhnhcmdhkaa
open Go Go.Ab Go.Fl
set_option linter.unusedVariables false
set_option linter.unusedSimpArgs false
theorem dist_fin (x : Int × Int × Int × List Int × List Int) (_ : True) (fr : List Int) (_ : fr.length ≤ maxLen ∧ ∀ a, a ∈ fr → okI a) (av : List Int) (_ : av.length ≤ maxLen ∧ ∀ a, a ∈ av → okI a) : ACall Try.prog 4 [floorA ⟨x.1, x.2.1, x.2.2.1, x.2.2.2.1, x.2.2.2.2⟩, .rowE (ints fr) 1, .rowE (ints av) 1] [] (.b true) [] := by
  by_cases h : FairP ⟨x.1, x.2.1, x.2.2.1, x.2.2.2.1, x.2.2.2.2⟩ ∧ fr.length ≤ 30 ∧ av.length ≤ 30
  · exact distlaw_in fr av h.1 h.2.1 h.2.2
  · exact distlaw_no fr av h
end Go.Proofs.Ytilcbhnhcmdhkaa
