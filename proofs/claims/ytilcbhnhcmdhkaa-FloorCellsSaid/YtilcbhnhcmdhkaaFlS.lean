/-
  FloorCells, with its arguments as they are read.
-/
import Derived.Test.YtilcbhnhcmdhkaaFlO
import Derived.Test.YtilcbhnhcmdhkaaFl13
namespace Go.Proofs.Ytilcbhnhcmdhkaa
open Go Go.Ab Go.Fl
set_option linter.unusedVariables false
set_option linter.unusedSimpArgs false
theorem cells_fin (x : Int × Int × Int × List Int × List Int) (_ : True) (c : Int) (_ : okI c) (e : Int) (_ : okI e) (u : Int) (_ : okI u) (v : Int) (_ : okI v) (w : Int) (_ : okI w) : ACall Try.prog 7 [floorA ⟨x.1, x.2.1, x.2.2.1, x.2.2.2.1, x.2.2.2.2⟩, .i c, .i e, .i u, .i v, .i w] [] (.b true) [] := by
  by_cases h : FairP ⟨x.1, x.2.1, x.2.2.1, x.2.2.2.1, x.2.2.2.2⟩
  · exact cells_in c e u v w h
  · exact cells_no c e u v w h
end Go.Proofs.Ytilcbhnhcmdhkaa
