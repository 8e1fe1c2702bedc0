/-
  Layer 8: how the laws' arguments are read.
-/
import Derived.Test.YtlpffgndackglaaFl2
namespace Go.Proofs.Ytlpffgndackglaa
open Go Go.Ab Go.Fl
set_option linter.unusedVariables false
set_option linter.unusedSimpArgs false

def okI (n : Int) : Prop := (Lit.int .i64 n).wf = true
theorem opInt : Opens Try.prog 3 okI (fun n => [AV.i n]) := Opens.int Try.underlying3 (by kernel_rfl)
theorem opInts : Opens Try.prog 22 (fun l : List Int => l.length ≤ maxLen ∧ ∀ a, a ∈ l → okI a) (fun l => [.rowE (ints l) 1]) :=
  Opens.slice Try.underlying22 (by kernel_rfl) (by kernel_rfl) (by decide) opInt
theorem opFloor : Opens Try.prog 24 (fun _ : Int × Int × Int × List Int × List Int => True) (fun p => [AV.i p.1, AV.i p.2.1, AV.i p.2.2.1, .rowE (ints p.2.2.2.1) 1, .rowE (ints p.2.2.2.2) 1]) :=
  Opens.struct (fs := [(3, 0), (3, 1), (3, 2), (22, 3), (22, 4)]) (by kernel_rfl) (by kernel_rfl)
    (fun e W fuel css hl hx => by
      obtain ⟨a, h1, h2, h3⟩ := OpensF.cons opInt (OpensF.cons opInt (OpensF.cons opInt (OpensF.cons opInts (OpensF.cons opInts OpensF.nil)))) e W fuel css hl hx
      exact ⟨(a.1, a.2.1, a.2.2.1, a.2.2.2.1, a.2.2.2.2.1), trivial, by simpa using h2, by simpa using h3⟩)
    (fun _ => by kernel_rfl)
end Go.Proofs.Ytlpffgndackglaa
