/-
  Layer 14: how the laws' arguments are read.
-/
import Derived.Test.YtcdgmjfmmnklnaaBdK
namespace Go.Proofs.Ytcdgmjfmmnklnaa
open Go Go.Ab Go.Fl
set_option linter.unusedVariables false
set_option linter.unusedSimpArgs false
attribute [local irreducible] VC AW FStep ACall
def okI (n : Int) : Prop := (Lit.int .i64 n).wf = true
theorem opInt : Opens Try.prog 3 okI (fun n => [AV.i n]) := Opens.int Try.underlying3 (by kernel_rfl)
theorem opBool : Opens Try.prog 4 (fun _ => True) (fun b => [AV.b b]) := Opens.bool Try.underlying4 (by kernel_rfl)
theorem opStr : Opens Try.prog 9 (fun l : List UInt8 => l.length ≤ maxLen) (fun l => [AV.s l]) :=
  Opens.iso (Opens.string (by kernel_rfl) (by kernel_rfl)) (fun s : ByteArray => s.data.toList) fun s hs => ⟨by simpa using hs, rfl⟩
theorem opInts : Opens Try.prog 22 (fun l : List Int => l.length ≤ maxLen ∧ ∀ a, a ∈ l → okI a) (fun l => [.rowE (ints l) 1]) :=
  Opens.slice Try.underlying22 (by kernel_rfl) (by kernel_rfl) (by decide) opInt
theorem opFloor : Opens Try.prog 24 (fun _ : Flo => True) (fun p => floorC p) :=
  Opens.struct (fs := [(3, 0), (3, 1), (3, 2), (22, 3), (22, 4)]) (by kernel_rfl) (by kernel_rfl)
    (fun e W fuel css hl hx => by
      obtain ⟨a, h1, h2, h3⟩ := OpensF.cons opInt (OpensF.cons opInt (OpensF.cons opInt (OpensF.cons opInts (OpensF.cons opInts OpensF.nil)))) e W fuel css hl hx
      exact ⟨⟨a.1, a.2.1, a.2.2.1, a.2.2.2.1, a.2.2.2.2.1⟩, trivial, by simpa using h2, by simpa using h3⟩)
    (fun _ => by kernel_rfl)
theorem opSpan : Opens Try.prog 95 (fun _ : Int × Int => True) (fun x => [AV.i x.1, AV.i x.2]) :=
  Opens.struct (fs := [(3, 0), (3, 1)]) (by kernel_rfl) (by kernel_rfl)
    (fun e W fuel css hl hx => by
      obtain ⟨a, h1, h2, h3⟩ := OpensF.cons opInt (OpensF.cons opInt OpensF.nil) e W fuel css hl hx
      exact ⟨(a.1, a.2.1), trivial, by simpa using h2, by simpa using h3⟩)
    (fun _ => by kernel_rfl)
theorem opSpans : Opens Try.prog 54 (fun l : List (Int × Int) => l.length ≤ maxLen ∧ ∀ a, a ∈ l → True) (fun l => [.rowE (stksA l) 2]) :=
  Opens.slice Try.underlying54 (by kernel_rfl) (by kernel_rfl) (by decide) opSpan
theorem opStart : Opens Try.prog 73 (fun _ : Int × Int => True) (fun x => [AV.i x.1, AV.i x.2]) :=
  Opens.struct (fs := [(3, 0), (3, 1)]) (by kernel_rfl) (by kernel_rfl)
    (fun e W fuel css hl hx => by
      obtain ⟨a, h1, h2, h3⟩ := OpensF.cons opInt (OpensF.cons opInt OpensF.nil) e W fuel css hl hx
      exact ⟨(a.1, a.2.1), trivial, by simpa using h2, by simpa using h3⟩)
    (fun _ => by kernel_rfl)
theorem opStarts : Opens Try.prog 28 (fun l : List (Int × Int) => l.length ≤ maxLen ∧ ∀ a, a ∈ l → True) (fun l => [.rowE (stksA l) 2]) :=
  Opens.slice Try.underlying28 (by kernel_rfl) (by kernel_rfl) (by decide) opStart
theorem opApart : Opens Try.prog 58 (fun _ : List UInt8 × List UInt8 => True) (fun x => [AV.s x.1, AV.s x.2]) :=
  Opens.struct (fs := [(9, 0), (9, 1)]) (by kernel_rfl) (by kernel_rfl)
    (fun e W fuel css hl hx => by
      obtain ⟨a, h1, h2, h3⟩ := OpensF.cons opStr (OpensF.cons opStr OpensF.nil) e W fuel css hl hx
      exact ⟨(a.1, a.2.1), trivial, by simpa using h2, by simpa using h3⟩)
    (fun _ => by kernel_rfl)
theorem opAparts : Opens Try.prog 26 (fun l : List (List UInt8 × List UInt8) => l.length ≤ maxLen ∧ ∀ a, a ∈ l → True) (fun l => [.rowE (apsA l) 2]) :=
  Opens.slice Try.underlying26 (by kernel_rfl) (by kernel_rfl) (by decide) opApart
theorem opShelf : Opens Try.prog 60 (fun _ : Int × List UInt8 => True) (fun x => [AV.i x.1, AV.s x.2]) :=
  Opens.struct (fs := [(3, 0), (9, 1)]) (by kernel_rfl) (by kernel_rfl)
    (fun e W fuel css hl hx => by
      obtain ⟨a, h1, h2, h3⟩ := OpensF.cons opInt (OpensF.cons opStr OpensF.nil) e W fuel css hl hx
      exact ⟨(a.1, a.2.1), trivial, by simpa using h2, by simpa using h3⟩)
    (fun _ => by kernel_rfl)
theorem opShelves : Opens Try.prog 27 (fun l : List (Int × List UInt8) => l.length ≤ maxLen ∧ ∀ a, a ∈ l → True) (fun l => [.rowE (shsA l) 2]) :=
  Opens.slice Try.underlying27 (by kernel_rfl) (by kernel_rfl) (by decide) opShelf
theorem opZone : Opens Try.prog 56 (fun _ : Zon => True) zonA :=
  Opens.struct (fs := [(9, 0), (22, 1), (3, 2), (3, 3), (54, 4)]) (by kernel_rfl) (by kernel_rfl)
    (fun e W fuel css hl hx => by
      obtain ⟨a, h1, h2, h3⟩ := OpensF.cons opStr (OpensF.cons opInts (OpensF.cons opInt (OpensF.cons opInt (OpensF.cons opSpans OpensF.nil)))) e W fuel css hl hx
      exact ⟨(a.1, a.2.1, a.2.2.1, a.2.2.2.1, a.2.2.2.2.1), trivial, by simpa using h2, by simpa using h3⟩)
    (fun _ => by kernel_rfl)
theorem opZones : Opens Try.prog 25 (fun l : List Zon => l.length ≤ maxLen ∧ ∀ a, a ∈ l → True) (fun l => [.rowE (zonsA l) 5]) :=
  Opens.slice Try.underlying25 (by kernel_rfl) (by kernel_rfl) (by decide) opZone
theorem opSite : Opens Try.prog 30 (fun _ : Sit => True) (fun s => sitA s) :=
  Opens.struct (fs := [(24, 0), (25, 5), (26, 6), (27, 7), (28, 8)]) (by kernel_rfl) (by kernel_rfl)
    (fun e W fuel css hl hx => by
      obtain ⟨a, h1, h2, h3⟩ := OpensF.cons opFloor (OpensF.cons opZones (OpensF.cons opAparts (OpensF.cons opShelves (OpensF.cons opStarts OpensF.nil)))) e W fuel css hl hx
      exact ⟨⟨a.1, a.2.1, a.2.2.1, a.2.2.2.1, a.2.2.2.2.1⟩, trivial, by simpa using h2, by simpa using h3⟩)
    (fun _ => by kernel_rfl)
theorem opRobot : Opens Try.prog 45 (fun _ : Rob => True) robA :=
  Opens.struct (fs := [(3, 0), (3, 1), (3, 2), (3, 3), (3, 4), (4, 5)]) (by kernel_rfl) (by kernel_rfl)
    (fun e W fuel css hl hx => by
      obtain ⟨a, h1, h2, h3⟩ := OpensF.cons opInt (OpensF.cons opInt (OpensF.cons opInt (OpensF.cons opInt (OpensF.cons opInt (OpensF.cons opBool OpensF.nil))))) e W fuel css hl hx
      exact ⟨(a.1, a.2.1, a.2.2.1, a.2.2.2.1, a.2.2.2.2.1, a.2.2.2.2.2.1), trivial, by simpa using h2, by simpa using h3⟩)
    (fun _ => by kernel_rfl)
theorem opRobots : Opens Try.prog 31 (fun l : List Rob => l.length ≤ maxLen ∧ ∀ a, a ∈ l → True) (fun l => [.rowE (robsA l) 6]) :=
  Opens.slice Try.underlying31 (by kernel_rfl) (by kernel_rfl) (by decide) opRobot
theorem opStuck : Opens Try.prog 106 (fun _ : Int × Int => True) (fun x => [AV.i x.1, AV.i x.2]) :=
  Opens.struct (fs := [(3, 0), (3, 1)]) (by kernel_rfl) (by kernel_rfl)
    (fun e W fuel css hl hx => by
      obtain ⟨a, h1, h2, h3⟩ := OpensF.cons opInt (OpensF.cons opInt OpensF.nil) e W fuel css hl hx
      exact ⟨(a.1, a.2.1), trivial, by simpa using h2, by simpa using h3⟩)
    (fun _ => by kernel_rfl)
theorem opStucks : Opens Try.prog 32 (fun l : List (Int × Int) => l.length ≤ maxLen ∧ ∀ a, a ∈ l → True) (fun l => [.rowE (stksA l) 2]) :=
  Opens.slice Try.underlying32 (by kernel_rfl) (by kernel_rfl) (by decide) opStuck
theorem opState : Opens Try.prog 34 (fun _ : Stt => True) (fun s => sttA s) :=
  Opens.struct (fs := [(3, 0), (22, 1), (31, 2), (22, 3), (22, 4), (32, 5)]) (by kernel_rfl) (by kernel_rfl)
    (fun e W fuel css hl hx => by
      obtain ⟨a, h1, h2, h3⟩ := OpensF.cons opInt (OpensF.cons opInts (OpensF.cons opRobots (OpensF.cons opInts (OpensF.cons opInts (OpensF.cons opStucks OpensF.nil))))) e W fuel css hl hx
      exact ⟨⟨a.1, a.2.1, a.2.2.1, a.2.2.2.1, a.2.2.2.2.1, a.2.2.2.2.2.1⟩, trivial, by simpa using h2, by simpa using h3⟩)
    (fun _ => by kernel_rfl)
end Go.Proofs.Ytcdgmjfmmnklnaa
