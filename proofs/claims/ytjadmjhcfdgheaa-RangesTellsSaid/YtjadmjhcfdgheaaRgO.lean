/-
  How the laws' arguments are read: integers, ranges, lists of them.
-/
import Derived.Test.YtjadmjhcfdgheaaRg5
namespace Go.Proofs.Ytjadmjhcfdgheaa
open Go Go.Ab
set_option linter.unusedVariables false
set_option linter.unusedSimpArgs false

def okI (n : Int) : Prop := (Lit.int .i64 n).wf = true
theorem opInt : Opens Try.prog 3 okI (fun n => [AV.i n]) := Opens.int Try.underlying3 (by kernel_rfl)
theorem opSpan : Opens Try.prog 23 (fun p : Int × Int => okI p.1 ∧ okI p.2) (fun p => [AV.i p.1, AV.i p.2]) :=
  Opens.struct (fs := [(3, 0), (3, 1)]) (by kernel_rfl) (by kernel_rfl)
    (fun e W fuel css hl hx => by
      obtain ⟨a, h1, h2, h3⟩ := OpensF.cons opInt (OpensF.cons opInt OpensF.nil) e W fuel css hl hx
      exact ⟨(a.1, a.2.1), ⟨h1.1, h1.2.1⟩, by simpa using h2, by simpa using h3⟩)
    (fun _ => by kernel_rfl)
theorem opSpans : Opens Try.prog 26 (fun l : List (Int × Int) => l.length ≤ maxLen ∧ ∀ a, a ∈ l → okI a.1 ∧ okI a.2) (fun l => [.rowE (spans l) 2]) :=
  Opens.slice Try.underlying26 (by kernel_rfl) (by kernel_rfl) (by decide) opSpan
theorem opInts : Opens Try.prog 39 (fun l : List Int => l.length ≤ maxLen ∧ ∀ a, a ∈ l → okI a) (fun l => [.rowE (ints l) 1]) :=
  Opens.slice Try.underlying39 (by kernel_rfl) (by kernel_rfl) (by decide) opInt

theorem weigh_fin (t : Int) (_ : okI t) (u : Int) (_ : okI u) (w : Int) (_ : okI w) (e : Int) (_ : okI e) (n : Int) (_ : okI n) : ACall Try.prog 4 [.i t, .i u, .i w, .i e, .i n] [] (.b true) [] := weigh_c t u w e n
end Go.Proofs.Ytjadmjhcfdgheaa
