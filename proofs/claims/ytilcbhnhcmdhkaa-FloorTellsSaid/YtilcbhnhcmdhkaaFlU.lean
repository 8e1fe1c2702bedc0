/-
  FloorTells, with its arguments as they are read.
-/
import Derived.Test.YtilcbhnhcmdhkaaFlO
import Derived.Test.YtilcbhnhcmdhkaaFl17
namespace Go.Proofs.Ytilcbhnhcmdhkaa
open Go Go.Ab Go.Fl
set_option linter.unusedVariables false
set_option linter.unusedSimpArgs false
theorem tells_fin (p : Int × Int × Int × List Int × List Int) (_ : True) (x : Int) (_ : okI x) (y : Int) (_ : okI y) (z : Int) (_ : okI z) (d : Int) (_ : okI d) (fr : List Int) (_ : fr.length ≤ maxLen ∧ ∀ a, a ∈ fr → okI a) (av : List Int) (_ : av.length ≤ maxLen ∧ ∀ a, a ∈ av → okI a) : ACall Try.prog 6 [floorA ⟨p.1, p.2.1, p.2.2.1, p.2.2.2.1, p.2.2.2.2⟩, .i x, .i y, .i z, .i d, .rowE (ints fr) 1, .rowE (ints av) 1] [] (.b true) [] := by
  generalize (⟨p.1, p.2.1, p.2.2.1, p.2.2.2.1, p.2.2.2.2⟩ : Flo) = f
  by_cases h : (f.k.length ≤ 300 ∧ f.o.length ≤ 300) ∧ fr.length ≤ 30 ∧ av.length ≤ 30
  · exact tells_in x y z d fr av h.1 h.2.1 h.2.2
  · exact tells_few x y z d fr av h
end Go.Proofs.Ytilcbhnhcmdhkaa
