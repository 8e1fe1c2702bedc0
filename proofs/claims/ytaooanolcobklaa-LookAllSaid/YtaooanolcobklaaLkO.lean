/-
  Layer 40: how the laws' arguments are read.
-/
import Derived.Test.YtaooanolcobklaaLk1
import Derived.Test.YtaooanolcobklaaAb21
namespace Go.Proofs.Ytaooanolcobklaa
open Go Go.Ab Go.Lk
set_option linter.unusedVariables false
set_option linter.unusedSimpArgs false

def okI (n : Int) : Prop := (Lit.int .i64 n).wf = true
theorem opInt : Opens Try.prog 3 okI (fun n => [AV.i n]) := Opens.int Try.underlying3 (by kernel_rfl)
theorem opInts : Opens Try.prog 23 (fun l : List Int => l.length ≤ maxLen ∧ ∀ a, a ∈ l → okI a) (fun l => [.rowE (ints l) 1]) :=
  Opens.slice Try.underlying23 (by kernel_rfl) (by kernel_rfl) (by decide) opInt
theorem opWs : Opens Try.prog 22 (fun l : Ws => l.length ≤ maxLen ∧ ∀ a, a ∈ l → a.length ≤ maxLen ∧ ∀ x, x ∈ a → okI x) (fun l => [.rowE (wsA l) 1]) :=
  Opens.slice Try.underlying22 (by kernel_rfl) (by kernel_rfl) (by decide) opInts
end Go.Proofs.Ytaooanolcobklaa
