/-
  FloorPaths, with its arguments as they are read.
-/
import Derived.Test.YtilcbhnhcmdhkaaFlO
import Derived.Test.YtilcbhnhcmdhkaaFl11
namespace Go.Proofs.Ytilcbhnhcmdhkaa
open Go Go.Ab Go.Fl
set_option linter.unusedVariables false
set_option linter.unusedSimpArgs false
theorem paths_fin (x : Int × Int × Int × List Int × List Int) (_ : True) (a : Int) (_ : okI a) (b : Int) (_ : okI b) (av : List Int) (_ : av.length ≤ maxLen ∧ ∀ a, a ∈ av → okI a) : ACall Try.prog 5 [floorA ⟨x.1, x.2.1, x.2.2.1, x.2.2.2.1, x.2.2.2.2⟩, .i a, .i b, .rowE (ints av) 1] [] (.b true) [] := by
  generalize (⟨x.1, x.2.1, x.2.2.1, x.2.2.2.1, x.2.2.2.2⟩ : Flo) = f
  by_cases h : FairP f ∧ av.length ≤ 30
  · by_cases hab : (0 ≤ a ∧ a < f.k.length) ∧ (0 ≤ b ∧ b < f.k.length)
    · obtain ⟨n, rfl⟩ := Int.eq_ofNat_of_zero_le hab.1.1
      obtain ⟨m, rfl⟩ := Int.eq_ofNat_of_zero_le hab.2.1
      exact paths_in n m av h.1 h.2 (by omega) (by omega)
    · exact paths_off a b av h.1 h.2 hab
  · exact paths_no a b av h
end Go.Proofs.Ytilcbhnhcmdhkaa
