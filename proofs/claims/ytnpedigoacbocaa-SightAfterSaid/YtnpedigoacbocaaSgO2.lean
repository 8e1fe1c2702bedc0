/-
  Layer 36: how the arguments of SightGrows are read.
-/
import Derived.Test.YtnpedigoacbocaaSg11
namespace Go.Proofs.Ytnpedigoacbocaa
open Go Go.Ab
set_option linter.unusedVariables false
set_option linter.unusedSimpArgs false

def okI (n : Int) : Prop := (Lit.int .i64 n).wf = true
theorem opInt : Opens Try.prog 3 okI (fun n => [AV.i n]) := Opens.int Try.underlying3 (by kernel_rfl)
theorem opBool : Opens Try.prog 4 (fun _ => True) (fun b => [AV.b b]) := Opens.bool Try.underlying4 (by kernel_rfl)
theorem opString : Opens Try.prog 9 (fun s => s.size ≤ maxLen) (fun s => [.v (.string s)]) := Opens.string Try.underlying9 (by kernel_rfl)
theorem opInts : Opens Try.prog 24 (fun l : List Int => l.length ≤ maxLen ∧ ∀ a, a ∈ l → okI a) (fun l => [.rowE (ints l) 1]) :=
  Opens.slice Try.underlying24 (by kernel_rfl) (by kernel_rfl) (by decide) opInt
theorem opKind : Opens Try.prog 49 (fun p : KD => p.1.size ≤ maxLen ∧ okI p.2) (fun p => [AV.v (.string p.1), AV.i p.2]) :=
  Opens.struct (fs := [(9, 0), (3, 1)]) (by kernel_rfl) (by kernel_rfl)
    (fun e W fuel css hl hx => by
      obtain ⟨a, h1, h2, h3⟩ := OpensF.cons opString (OpensF.cons opInt OpensF.nil) e W fuel css hl hx
      exact ⟨(a.1, a.2.1), ⟨h1.1, h1.2.1⟩, by simpa using h2, by simpa using h3⟩)
    (fun _ => by kernel_rfl)
theorem opLot : Opens Try.prog 52 (fun p : LT => okI p.1 ∧ okI p.2.1) (fun p => [AV.i p.1, AV.i p.2.1, AV.b p.2.2]) :=
  Opens.struct (fs := [(3, 0), (3, 1), (4, 2)]) (by kernel_rfl) (by kernel_rfl)
    (fun e W fuel css hl hx => by
      obtain ⟨a, h1, h2, h3⟩ := OpensF.cons opInt (OpensF.cons opInt (OpensF.cons opBool OpensF.nil)) e W fuel css hl hx
      exact ⟨(a.1, a.2.1, a.2.2.1), ⟨h1.1, h1.2.1⟩, by simpa using h2, by simpa using h3⟩)
    (fun _ => by kernel_rfl)
theorem opBox : Opens Try.prog 42 (fun p : BX => okI p.1 ∧ okI p.2.1 ∧ okI p.2.2) (fun p => [AV.i p.1, AV.i p.2.1, AV.i p.2.2]) :=
  Opens.struct (fs := [(3, 0), (3, 1), (3, 2)]) (by kernel_rfl) (by kernel_rfl)
    (fun e W fuel css hl hx => by
      obtain ⟨a, h1, h2, h3⟩ := OpensF.cons opInt (OpensF.cons opInt (OpensF.cons opInt OpensF.nil)) e W fuel css hl hx
      exact ⟨(a.1, a.2.1, a.2.2.1), ⟨h1.1, h1.2.1, h1.2.2.1⟩, by simpa using h2, by simpa using h3⟩)
    (fun _ => by kernel_rfl)
theorem opKinds : Opens Try.prog 22 (fun l : List KD => l.length ≤ maxLen ∧ ∀ a, a ∈ l → a.1.size ≤ maxLen ∧ okI a.2) (fun l => [.rowE (kinds l) 2]) :=
  Opens.slice Try.underlying22 (by kernel_rfl) (by kernel_rfl) (by decide) opKind
theorem opLots : Opens Try.prog 23 (fun l : List LT => l.length ≤ maxLen ∧ ∀ a, a ∈ l → okI a.1 ∧ okI a.2.1) (fun l => [.rowE (lots l) 3]) :=
  Opens.slice Try.underlying23 (by kernel_rfl) (by kernel_rfl) (by decide) opLot
theorem opBoxes : Opens Try.prog 25 (fun l : List BX => l.length ≤ maxLen ∧ ∀ a, a ∈ l → okI a.1 ∧ okI a.2.1 ∧ okI a.2.2) (fun l => [.rowE (boxes l) 3]) :=
  Opens.slice Try.underlying25 (by kernel_rfl) (by kernel_rfl) (by decide) opBox
theorem opStore : Opens Try.prog 27 (fun _ : List KD × List LT × List Int × List BX => True) (fun x => [.rowE (kinds x.1) 2, .rowE (lots x.2.1) 3, .rowE (ints x.2.2.1) 1, .rowE (boxes x.2.2.2) 3]) :=
  Opens.struct (fs := [(22, 0), (23, 1), (24, 2), (25, 3)]) (by kernel_rfl) (by kernel_rfl)
    (fun e W fuel css hl hx => by
      obtain ⟨a, h1, h2, h3⟩ := OpensF.cons opKinds (OpensF.cons opLots (OpensF.cons opInts (OpensF.cons opBoxes OpensF.nil))) e W fuel css hl hx
      exact ⟨(a.1, a.2.1, a.2.2.1, a.2.2.2.1), trivial, by simpa using h2, by simpa using h3⟩)
    (fun _ => by kernel_rfl)
theorem opSenses : Opens Try.prog 29 (fun p : Int × Int × Int × Int => okI p.1 ∧ okI p.2.1 ∧ okI p.2.2.1 ∧ okI p.2.2.2) (fun p => [AV.i p.1, AV.i p.2.1, AV.i p.2.2.1, AV.i p.2.2.2]) :=
  Opens.struct (fs := [(3, 0), (3, 1), (3, 2), (3, 3)]) (by kernel_rfl) (by kernel_rfl)
    (fun e W fuel css hl hx => by
      obtain ⟨a, h1, h2, h3⟩ := OpensF.cons opInt (OpensF.cons opInt (OpensF.cons opInt (OpensF.cons opInt OpensF.nil))) e W fuel css hl hx
      exact ⟨(a.1, a.2.1, a.2.2.1, a.2.2.2.1), ⟨h1.1, h1.2.1, h1.2.2.1, h1.2.2.2.1⟩, by simpa using h2, by simpa using h3⟩)
    (fun _ => by kernel_rfl)
theorem opSight : Opens Try.prog 31 (fun p : Int × Int × Int × Int × List Int => p.2.2.2.2.length ≤ maxLen) (fun p => [AV.i p.1, AV.i p.2.1, AV.i p.2.2.1, AV.i p.2.2.2.1, .rowE (ints p.2.2.2.2) 1]) :=
  Opens.struct (fs := [(3, 0), (3, 1), (3, 2), (3, 3), (24, 4)]) (by kernel_rfl) (by kernel_rfl)
    (fun e W fuel css hl hx => by
      obtain ⟨a, h1, h2, h3⟩ := OpensF.cons opInt (OpensF.cons opInt (OpensF.cons opInt (OpensF.cons opInt (OpensF.cons opInts OpensF.nil)))) e W fuel css hl hx
      exact ⟨(a.1, a.2.1, a.2.2.1, a.2.2.2.1, a.2.2.2.2.1), h1.2.2.2.2.1.1, by simpa using h2, by simpa using h3⟩)
    (fun _ => by kernel_rfl)
theorem grows_fin (x : List KD × List LT × List Int × List BX) (_ : True) (c : Int × Int × Int × Int) (_ : okI c.1 ∧ okI c.2.1 ∧ okI c.2.2.1 ∧ okI c.2.2.2) (e : Int × Int × Int × Int) (_ : okI e.1 ∧ okI e.2.1 ∧ okI e.2.2.1 ∧ okI e.2.2.2) (s : Int × Int × Int × Int × List Int) (hs : s.2.2.2.2.length ≤ maxLen) (o : Int) (_ : okI o) :
    ACall Try.prog 3 [storeA x.1 x.2.1 x.2.2.1 x.2.2.2, sensesA c.1 c.2.1 c.2.2.1 c.2.2.2, sensesA e.1 e.2.1 e.2.2.1 e.2.2.2, sightA s.1 s.2.1 s.2.2.1 s.2.2.2.1 s.2.2.2.2, .i o] [] (.b true) [] := grows_c _ _ _ _ _ _ _ _ _ _ _ _ _ _ _ _ _ _ (by simpa [maxLen] using hs)
end Go.Proofs.Ytnpedigoacbocaa
