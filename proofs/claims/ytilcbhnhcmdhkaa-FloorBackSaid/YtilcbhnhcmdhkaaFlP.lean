/-
  FloorBack, with its arguments as they are read.
-/
import Derived.Test.YtilcbhnhcmdhkaaFlO
import Derived.Test.YtilcbhnhcmdhkaaFl9
namespace Go.Proofs.Ytilcbhnhcmdhkaa
open Go Go.Ab Go.Fl
set_option linter.unusedVariables false
set_option linter.unusedSimpArgs false
theorem back_fin (x : Int × Int × Int × List Int × List Int) (_ : True) (c : Int) (_ : okI c) (d : Int) (_ : okI d) : ACall Try.prog 3 [floorA ⟨x.1, x.2.1, x.2.2.1, x.2.2.2.1, x.2.2.2.2⟩, .i c, .i d] [] (.b true) [] := back_law _ c d
end Go.Proofs.Ytilcbhnhcmdhkaa
