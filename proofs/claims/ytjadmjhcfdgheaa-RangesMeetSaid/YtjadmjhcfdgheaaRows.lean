/-
  No cell of these rows narrows 'for every input' (looked for: loops, veiled, ifaces, maps, wideKeys, modest, calm, conditions, laid).
  DERIVED. THE GIVEN ROWS OF THIS SEAT. 5 by the template 'for every input the law returns true; each argument reads behind the call as it read before'; 0 by the template 'total and deterministic' (their statements: YtjadmjhcfdgheaaTotals.lean).
  GIVEN WITH THE SEED: the statements are not yours to turn. If you find one false, say at which input.
  Laid BY PROGRAM, IN A SANDBOX (cutbox-rows.mjs): the forced cells as the released guide's own fill.sh prints them over the translation 2e9df4edbda5cd6d… (all of the seat's roots in one cut). By AI agents, Wed Nov 11 2026. No macro, syntax, notation, axiom, sorry.
-/
import Derived.Test.YtjadmjhcfdgheaaChecked
import GoSem.Claim
import GoSem.ClaimJoined
import GoSem.ClaimMapViews
import Derived.JoinedTies
import Derived.KernelRfl
namespace Go.Proofs.Ytjadmjhcfdgheaa
/- THE CELL 'sum', in the pinned program and in every row, IS THE sha256 OF THE DUMP (.gsa) THAT YtjadmjhcfdgheaaProg.lean LOADS. Nothing in Lean hashes anything: it is a label: what it is worth is what the hold of that sum in a sandbox is worth. -/
noncomputable def Try.pinned : Pinned := { name := "ytjadmjhcfdgheaa", sum := "2e9df4edbda5cd6d36e280c377ef533ce528f73f825131693dfe9c79013048c4", checked := Try.checked }
namespace Rows
def none {H : Type} : Left H := { results := [], args := [] }

/-- 'taquinlaw38.RangesPick': WHATEVER THE INPUT: true; the input reads as it did. -/
def rangesPickSpec : ChangeSpec := { name := "rangesPick", fn := fun _ => fun
  | [d1, d2, d3] => { results := [.lit (.bool true)], args := [d1, d2, d3] }
  | _ => none }
def rangesPickRow : OpenClaim := { program := "ytjadmjhcfdgheaa", sum := "2e9df4edbda5cd6d36e280c377ef533ce528f73f825131693dfe9c79013048c4", func := "taquin/taquinlaw38.RangesPick", spec := "rangesPick", apart := false }
def RangesPickSaid : Prop := rangesPickRow.holds Try.pinned (OpenSpec.ofChange rangesPickSpec)

/-- ITS FALSE NEIGHBOUR: 'it returns false'. Refute it at one input. -/
def rangesPickWrong : ChangeSpec := { name := "rangesPick", fn := fun _ => fun
  | [d1, d2, d3] => { results := [.lit (.bool false)], args := [d1, d2, d3] }
  | _ => none }
def RangesPickWrongFalsely : Prop := rangesPickRow.holds Try.pinned (OpenSpec.ofChange rangesPickWrong)

/-- 'taquinlaw38.RangesWeigh': WHATEVER THE INPUT: true; the input reads as it did. -/
def rangesWeighSpec : ChangeSpec := { name := "rangesWeigh", fn := fun _ => fun
  | [d1, d2, d3, d4, d5] => { results := [.lit (.bool true)], args := [d1, d2, d3, d4, d5] }
  | _ => none }
def rangesWeighRow : OpenClaim := { program := "ytjadmjhcfdgheaa", sum := "2e9df4edbda5cd6d36e280c377ef533ce528f73f825131693dfe9c79013048c4", func := "taquin/taquinlaw38.RangesWeigh", spec := "rangesWeigh", apart := false }
def RangesWeighSaid : Prop := rangesWeighRow.holds Try.pinned (OpenSpec.ofChange rangesWeighSpec)

/-- ITS FALSE NEIGHBOUR: 'it returns false'. Refute it at one input. -/
def rangesWeighWrong : ChangeSpec := { name := "rangesWeigh", fn := fun _ => fun
  | [d1, d2, d3, d4, d5] => { results := [.lit (.bool false)], args := [d1, d2, d3, d4, d5] }
  | _ => none }
def RangesWeighWrongFalsely : Prop := rangesWeighRow.holds Try.pinned (OpenSpec.ofChange rangesWeighWrong)

/-- 'taquinlaw38.RangesMeet': WHATEVER THE INPUT: true; the input reads as it did. -/
def rangesMeetSpec : ChangeSpec := { name := "rangesMeet", fn := fun _ => fun
  | [d1, d2, d3, d4] => { results := [.lit (.bool true)], args := [d1, d2, d3, d4] }
  | _ => none }
def rangesMeetRow : OpenClaim := { program := "ytjadmjhcfdgheaa", sum := "2e9df4edbda5cd6d36e280c377ef533ce528f73f825131693dfe9c79013048c4", func := "taquin/taquinlaw38.RangesMeet", spec := "rangesMeet", apart := false }
def RangesMeetSaid : Prop := rangesMeetRow.holds Try.pinned (OpenSpec.ofChange rangesMeetSpec)

/-- ITS FALSE NEIGHBOUR: 'it returns false'. Refute it at one input. -/
def rangesMeetWrong : ChangeSpec := { name := "rangesMeet", fn := fun _ => fun
  | [d1, d2, d3, d4] => { results := [.lit (.bool false)], args := [d1, d2, d3, d4] }
  | _ => none }
def RangesMeetWrongFalsely : Prop := rangesMeetRow.holds Try.pinned (OpenSpec.ofChange rangesMeetWrong)

/-- 'taquinlaw38.RangesSum': WHATEVER THE INPUT: true; the input reads as it did. -/
def rangesSumSpec : ChangeSpec := { name := "rangesSum", fn := fun _ => fun
  | [d1, d2, d3] => { results := [.lit (.bool true)], args := [d1, d2, d3] }
  | _ => none }
def rangesSumRow : OpenClaim := { program := "ytjadmjhcfdgheaa", sum := "2e9df4edbda5cd6d36e280c377ef533ce528f73f825131693dfe9c79013048c4", func := "taquin/taquinlaw38.RangesSum", spec := "rangesSum", apart := false }
def RangesSumSaid : Prop := rangesSumRow.holds Try.pinned (OpenSpec.ofChange rangesSumSpec)

/-- ITS FALSE NEIGHBOUR: 'it returns false'. Refute it at one input. -/
def rangesSumWrong : ChangeSpec := { name := "rangesSum", fn := fun _ => fun
  | [d1, d2, d3] => { results := [.lit (.bool false)], args := [d1, d2, d3] }
  | _ => none }
def RangesSumWrongFalsely : Prop := rangesSumRow.holds Try.pinned (OpenSpec.ofChange rangesSumWrong)

/-- 'taquinlaw38.RangesTells': WHATEVER THE INPUT: true; the input reads as it did. -/
def rangesTellsSpec : ChangeSpec := { name := "rangesTells", fn := fun _ => fun
  | [d1, d2, d3, d4, d5, d6, d7] => { results := [.lit (.bool true)], args := [d1, d2, d3, d4, d5, d6, d7] }
  | _ => none }
def rangesTellsRow : OpenClaim := { program := "ytjadmjhcfdgheaa", sum := "2e9df4edbda5cd6d36e280c377ef533ce528f73f825131693dfe9c79013048c4", func := "taquin/taquinlaw38.RangesTells", spec := "rangesTells", apart := false }
def RangesTellsSaid : Prop := rangesTellsRow.holds Try.pinned (OpenSpec.ofChange rangesTellsSpec)

/-- ITS FALSE NEIGHBOUR: 'it returns false'. Refute it at one input. -/
def rangesTellsWrong : ChangeSpec := { name := "rangesTells", fn := fun _ => fun
  | [d1, d2, d3, d4, d5, d6, d7] => { results := [.lit (.bool false)], args := [d1, d2, d3, d4, d5, d6, d7] }
  | _ => none }
def RangesTellsWrongFalsely : Prop := rangesTellsRow.holds Try.pinned (OpenSpec.ofChange rangesTellsWrong)

/- THE SECOND FORM. 'bulk': how many values and letters a reading holds, each counted each time it is reached (what is shared counts as often as it is met; a slice's spare places count too). A statement '..UptoSaid' is the law's where the arguments, and the package variables that the reading takes, are together of bulk at most 1048576: NARROWER than '..Said'. Prove '..Said' where nothing that the law and all that it calls make is longer than what came in: it says more and counts as full. Else prove '..UptoSaid'. A law counts once. -/
mutual
def uptoBulk {H : Type} : DataW H → Nat
  | .lit (.string bytes) => bytes.length + 1
  | .lit _ => 1
  | .nil => 1
  | .ptr d => uptoBulk d + 1
  | .slice elems spare => uptoBulkAll elems + uptoBulkAll spare + 1
  | .agg parts => uptoBulkAll parts + 1
  | .iface _ d => uptoBulk d + 1
  | .map entries => uptoBulkEntries entries + 1
  | .held _ => 1
def uptoBulkAll {H : Type} : List (DataW H) → Nat
  | [] => 0
  | d :: r => uptoBulk d + uptoBulkAll r
def uptoBulkEntries {H : Type} : List (Lit × DataW H) → Nat
  | [] => 0
  | x :: r => uptoBulkEntry x + uptoBulkEntries r
def uptoBulkEntry {H : Type} : Lit × DataW H → Nat
  | (.string bytes, d) => bytes.length + uptoBulk d + 1
  | (_, d) => uptoBulk d + 1
 end
def uptoSmall : (H : Type) → List (DataW H) → Bool := fun _ ds => decide (uptoBulkAll ds ≤ 1048576)
def OpenSpec.upto (s : _root_.Go.ChangeSpec) : _root_.Go.OpenSpec := { _root_.Go.OpenSpec.ofChange s with cond := some uptoSmall }

/-- 'taquinlaw38.RangesPick', WHERE WHAT IT READS IS OF BULK AT MOST 1048576: true; the input reads as it did. -/
def rangesPickUptoRow : OpenClaim := { program := "ytjadmjhcfdgheaa", sum := "2e9df4edbda5cd6d36e280c377ef533ce528f73f825131693dfe9c79013048c4", func := "taquin/taquinlaw38.RangesPick", spec := "rangesPick", apart := false, narrowed := true }
def RangesPickUptoSaid : Prop := rangesPickUptoRow.holds Try.pinned (OpenSpec.upto rangesPickSpec)

/-- 'taquinlaw38.RangesWeigh', WHERE WHAT IT READS IS OF BULK AT MOST 1048576: true; the input reads as it did. -/
def rangesWeighUptoRow : OpenClaim := { program := "ytjadmjhcfdgheaa", sum := "2e9df4edbda5cd6d36e280c377ef533ce528f73f825131693dfe9c79013048c4", func := "taquin/taquinlaw38.RangesWeigh", spec := "rangesWeigh", apart := false, narrowed := true }
def RangesWeighUptoSaid : Prop := rangesWeighUptoRow.holds Try.pinned (OpenSpec.upto rangesWeighSpec)

/-- 'taquinlaw38.RangesMeet', WHERE WHAT IT READS IS OF BULK AT MOST 1048576: true; the input reads as it did. -/
def rangesMeetUptoRow : OpenClaim := { program := "ytjadmjhcfdgheaa", sum := "2e9df4edbda5cd6d36e280c377ef533ce528f73f825131693dfe9c79013048c4", func := "taquin/taquinlaw38.RangesMeet", spec := "rangesMeet", apart := false, narrowed := true }
def RangesMeetUptoSaid : Prop := rangesMeetUptoRow.holds Try.pinned (OpenSpec.upto rangesMeetSpec)

/-- 'taquinlaw38.RangesSum', WHERE WHAT IT READS IS OF BULK AT MOST 1048576: true; the input reads as it did. -/
def rangesSumUptoRow : OpenClaim := { program := "ytjadmjhcfdgheaa", sum := "2e9df4edbda5cd6d36e280c377ef533ce528f73f825131693dfe9c79013048c4", func := "taquin/taquinlaw38.RangesSum", spec := "rangesSum", apart := false, narrowed := true }
def RangesSumUptoSaid : Prop := rangesSumUptoRow.holds Try.pinned (OpenSpec.upto rangesSumSpec)

/-- 'taquinlaw38.RangesTells', WHERE WHAT IT READS IS OF BULK AT MOST 1048576: true; the input reads as it did. -/
def rangesTellsUptoRow : OpenClaim := { program := "ytjadmjhcfdgheaa", sum := "2e9df4edbda5cd6d36e280c377ef533ce528f73f825131693dfe9c79013048c4", func := "taquin/taquinlaw38.RangesTells", spec := "rangesTells", apart := false, narrowed := true }
def RangesTellsUptoSaid : Prop := rangesTellsUptoRow.holds Try.pinned (OpenSpec.upto rangesTellsSpec)

end Rows
end Go.Proofs.Ytjadmjhcfdgheaa
