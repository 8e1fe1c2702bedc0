/-
  RangesSum, at what the row reads.
-/
import Derived.Test.YtjadmjhcfdgheaaRgO
import Derived.Test.YtjadmjhcfdgheaaRg7
namespace Go.Proofs.Ytjadmjhcfdgheaa
open Go Go.Ab
set_option linter.unusedVariables false
set_option linter.unusedSimpArgs false
theorem sum_fin (l : List (Int × Int)) (kl : l.length ≤ maxLen ∧ ∀ a, a ∈ l → okI a.1 ∧ okI a.2) (m : List (Int × Int)) (km : m.length ≤ maxLen ∧ ∀ a, a ∈ m → okI a.1 ∧ okI a.2) (ps : List Int) (kp : ps.length ≤ maxLen ∧ ∀ a, a ∈ ps → okI a) :
    ACall Try.prog 6 [.rowE (spans l) 2, .rowE (spans m) 2, .rowE (ints ps) 1] [] (.b true) [] := by
  have h1 := kl.1
  have h2 := km.1
  have h3 := kp.1
  unfold maxLen at h1 h2 h3
  cases hl : fewB l 50
  · exact sum_no l m ps (by omega) (by omega) (.inl hl)
  · cases hm : fewB m 50
    · exact sum_no l m ps (by omega) (by omega) (.inr ⟨hl, hm⟩)
    · exact sum_yes l m ps hl hm (by omega)
end Go.Proofs.Ytjadmjhcfdgheaa
