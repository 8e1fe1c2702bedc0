/-
  Layer 37: how the laws' arguments are read.
-/
import Derived.Test.YtgibgknkfcbopaaAb36
import Derived.Test.YtgibgknkfcbopaaTab
import Derived.Test.YtgibgknkfcbopaaAb16
namespace Go.Proofs.Ytgibgknkfcbopaa
open Go Go.Ab
set_option linter.unusedVariables false
set_option linter.unusedSimpArgs false

def okI (n : Int) : Prop := (Lit.int .i64 n).wf = true
theorem opInt : Opens Try.prog 3 okI (fun n => [AV.i n]) := Opens.int Try.underlying3 (by kernel_rfl)
theorem opInts : Opens Try.prog 22 (fun l : List Int => l.length ≤ maxLen ∧ ∀ a, a ∈ l → okI a) (fun l => [.rowE (ints l) 1]) :=
  Opens.slice Try.underlying22 (by kernel_rfl) (by kernel_rfl) (by decide) opInt
theorem maxLen_le : maxLen ≤ 9223372036854775807 := by decide
end Go.Proofs.Ytgibgknkfcbopaa
