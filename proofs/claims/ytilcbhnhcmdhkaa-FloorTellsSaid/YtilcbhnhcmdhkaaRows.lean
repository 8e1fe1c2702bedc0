/-
  No cell of these rows narrows 'for every input' (looked for: loops, veiled, ifaces, maps, wideKeys, modest, calm, conditions, laid).
  DERIVED. THE GIVEN ROWS OF THIS SEAT. 5 by the template 'for every input the law returns true; each argument reads behind the call as it read before'; 0 by the template 'total and deterministic' (their statements: YtilcbhnhcmdhkaaTotals.lean).
  GIVEN WITH THE SEED: the statements are not yours to turn. If you find one false, say at which input.
  Laid BY PROGRAM, IN A SANDBOX (cutbox-rows.mjs): the forced cells as the released guide's own fill.sh prints them over the translation e127927256553370… (all of the seat's roots in one cut). By AI agents, Wed Nov 11 2026. No macro, syntax, notation, axiom, sorry.
-/
import Derived.Test.YtilcbhnhcmdhkaaChecked
import GoSem.Claim
import GoSem.ClaimJoined
import GoSem.ClaimMapViews
import Derived.JoinedTies
import Derived.KernelRfl
namespace Go.Proofs.Ytilcbhnhcmdhkaa
/- THE CELL 'sum', in the pinned program and in every row, IS THE sha256 OF THE DUMP (.gsa) THAT YtilcbhnhcmdhkaaProg.lean LOADS. Nothing in Lean hashes anything: it is a label: what it is worth is what the hold of that sum in a sandbox is worth. -/
noncomputable def Try.pinned : Pinned := { name := "ytilcbhnhcmdhkaa", sum := "e12792725655337024d88409efddbe1e0778057f9f233475dbea19b9fe89ab2b", checked := Try.checked }
namespace Rows
def none {H : Type} : Left H := { results := [], args := [] }

/-- 'taquinlaw07.FloorBack': WHATEVER THE INPUT: true; the input reads as it did. -/
def floorBackSpec : ChangeSpec := { name := "floorBack", fn := fun _ => fun
  | [d1, d2, d3] => { results := [.lit (.bool true)], args := [d1, d2, d3] }
  | _ => none }
def floorBackRow : OpenClaim := { program := "ytilcbhnhcmdhkaa", sum := "e12792725655337024d88409efddbe1e0778057f9f233475dbea19b9fe89ab2b", func := "taquin/taquinlaw07.FloorBack", spec := "floorBack", unfollowed := true, recurses := true, apart := false }
def FloorBackSaid : Prop := floorBackRow.holds Try.pinned (OpenSpec.ofChange floorBackSpec)

/-- ITS FALSE NEIGHBOUR: 'it returns false'. Refute it at one input. -/
def floorBackWrong : ChangeSpec := { name := "floorBack", fn := fun _ => fun
  | [d1, d2, d3] => { results := [.lit (.bool false)], args := [d1, d2, d3] }
  | _ => none }
def FloorBackWrongFalsely : Prop := floorBackRow.holds Try.pinned (OpenSpec.ofChange floorBackWrong)

/-- 'taquinlaw07.FloorDist': WHATEVER THE INPUT: true; the input reads as it did. -/
def floorDistSpec : ChangeSpec := { name := "floorDist", fn := fun _ => fun
  | [d1, d2, d3] => { results := [.lit (.bool true)], args := [d1, d2, d3] }
  | _ => none }
def floorDistRow : OpenClaim := { program := "ytilcbhnhcmdhkaa", sum := "e12792725655337024d88409efddbe1e0778057f9f233475dbea19b9fe89ab2b", func := "taquin/taquinlaw07.FloorDist", spec := "floorDist", unfollowed := true, recurses := true, apart := false }
def FloorDistSaid : Prop := floorDistRow.holds Try.pinned (OpenSpec.ofChange floorDistSpec)

/-- ITS FALSE NEIGHBOUR: 'it returns false'. Refute it at one input. -/
def floorDistWrong : ChangeSpec := { name := "floorDist", fn := fun _ => fun
  | [d1, d2, d3] => { results := [.lit (.bool false)], args := [d1, d2, d3] }
  | _ => none }
def FloorDistWrongFalsely : Prop := floorDistRow.holds Try.pinned (OpenSpec.ofChange floorDistWrong)

/-- 'taquinlaw07.FloorPaths': WHATEVER THE INPUT: true; the input reads as it did. -/
def floorPathsSpec : ChangeSpec := { name := "floorPaths", fn := fun _ => fun
  | [d1, d2, d3, d4] => { results := [.lit (.bool true)], args := [d1, d2, d3, d4] }
  | _ => none }
def floorPathsRow : OpenClaim := { program := "ytilcbhnhcmdhkaa", sum := "e12792725655337024d88409efddbe1e0778057f9f233475dbea19b9fe89ab2b", func := "taquin/taquinlaw07.FloorPaths", spec := "floorPaths", unfollowed := true, recurses := true, apart := false }
def FloorPathsSaid : Prop := floorPathsRow.holds Try.pinned (OpenSpec.ofChange floorPathsSpec)

/-- ITS FALSE NEIGHBOUR: 'it returns false'. Refute it at one input. -/
def floorPathsWrong : ChangeSpec := { name := "floorPaths", fn := fun _ => fun
  | [d1, d2, d3, d4] => { results := [.lit (.bool false)], args := [d1, d2, d3, d4] }
  | _ => none }
def FloorPathsWrongFalsely : Prop := floorPathsRow.holds Try.pinned (OpenSpec.ofChange floorPathsWrong)

/-- 'taquinlaw07.FloorTells': WHATEVER THE INPUT: true; the input reads as it did. -/
def floorTellsSpec : ChangeSpec := { name := "floorTells", fn := fun _ => fun
  | [d1, d2, d3, d4, d5, d6, d7] => { results := [.lit (.bool true)], args := [d1, d2, d3, d4, d5, d6, d7] }
  | _ => none }
def floorTellsRow : OpenClaim := { program := "ytilcbhnhcmdhkaa", sum := "e12792725655337024d88409efddbe1e0778057f9f233475dbea19b9fe89ab2b", func := "taquin/taquinlaw07.FloorTells", spec := "floorTells", unfollowed := true, recurses := true, apart := false }
def FloorTellsSaid : Prop := floorTellsRow.holds Try.pinned (OpenSpec.ofChange floorTellsSpec)

/-- ITS FALSE NEIGHBOUR: 'it returns false'. Refute it at one input. -/
def floorTellsWrong : ChangeSpec := { name := "floorTells", fn := fun _ => fun
  | [d1, d2, d3, d4, d5, d6, d7] => { results := [.lit (.bool false)], args := [d1, d2, d3, d4, d5, d6, d7] }
  | _ => none }
def FloorTellsWrongFalsely : Prop := floorTellsRow.holds Try.pinned (OpenSpec.ofChange floorTellsWrong)

/-- 'taquinlaw07.FloorCells': WHATEVER THE INPUT: true; the input reads as it did. -/
def floorCellsSpec : ChangeSpec := { name := "floorCells", fn := fun _ => fun
  | [d1, d2, d3, d4, d5, d6] => { results := [.lit (.bool true)], args := [d1, d2, d3, d4, d5, d6] }
  | _ => none }
def floorCellsRow : OpenClaim := { program := "ytilcbhnhcmdhkaa", sum := "e12792725655337024d88409efddbe1e0778057f9f233475dbea19b9fe89ab2b", func := "taquin/taquinlaw07.FloorCells", spec := "floorCells", unfollowed := true, recurses := true, apart := false }
def FloorCellsSaid : Prop := floorCellsRow.holds Try.pinned (OpenSpec.ofChange floorCellsSpec)

/-- ITS FALSE NEIGHBOUR: 'it returns false'. Refute it at one input. -/
def floorCellsWrong : ChangeSpec := { name := "floorCells", fn := fun _ => fun
  | [d1, d2, d3, d4, d5, d6] => { results := [.lit (.bool false)], args := [d1, d2, d3, d4, d5, d6] }
  | _ => none }
def FloorCellsWrongFalsely : Prop := floorCellsRow.holds Try.pinned (OpenSpec.ofChange floorCellsWrong)

/- THE SECOND FORM. 'bulk': how many values and letters a reading holds, each counted each time it is reached (what is shared counts as often as it is met; a slice's spare places count too). A statement '..UptoSaid' is the law's where the arguments, and the package variables that the reading takes, are together of bulk at most 1048576: NARROWER than '..Said'. Prove '..Said' where nothing that the law and all that it calls make is longer than what came in: it says more and counts as full. Else prove '..UptoSaid'. A law counts once. -/
mutual
def uptoBulk {H : Type} : DataW H → Nat
  | .lit (.string bytes) => bytes.length + 1
  | .lit _ => 1
  | .nil => 1
  | .ptr d => uptoBulk d + 1
  | .slice elems spare => uptoBulkAll elems + uptoBulkAll spare + 1
  | .agg parts => uptoBulkAll parts + 1
  | .iface _ d => uptoBulk d + 1
  | .map entries => uptoBulkEntries entries + 1
  | .held _ => 1
def uptoBulkAll {H : Type} : List (DataW H) → Nat
  | [] => 0
  | d :: r => uptoBulk d + uptoBulkAll r
def uptoBulkEntries {H : Type} : List (Lit × DataW H) → Nat
  | [] => 0
  | x :: r => uptoBulkEntry x + uptoBulkEntries r
def uptoBulkEntry {H : Type} : Lit × DataW H → Nat
  | (.string bytes, d) => bytes.length + uptoBulk d + 1
  | (_, d) => uptoBulk d + 1
 end
def uptoSmall : (H : Type) → List (DataW H) → Bool := fun _ ds => decide (uptoBulkAll ds ≤ 1048576)
def OpenSpec.upto (s : _root_.Go.ChangeSpec) : _root_.Go.OpenSpec := { _root_.Go.OpenSpec.ofChange s with cond := some uptoSmall }

/-- 'taquinlaw07.FloorBack', WHERE WHAT IT READS IS OF BULK AT MOST 1048576: true; the input reads as it did. -/
def floorBackUptoRow : OpenClaim := { program := "ytilcbhnhcmdhkaa", sum := "e12792725655337024d88409efddbe1e0778057f9f233475dbea19b9fe89ab2b", func := "taquin/taquinlaw07.FloorBack", spec := "floorBack", unfollowed := true, recurses := true, apart := false, narrowed := true }
def FloorBackUptoSaid : Prop := floorBackUptoRow.holds Try.pinned (OpenSpec.upto floorBackSpec)

/-- 'taquinlaw07.FloorDist', WHERE WHAT IT READS IS OF BULK AT MOST 1048576: true; the input reads as it did. -/
def floorDistUptoRow : OpenClaim := { program := "ytilcbhnhcmdhkaa", sum := "e12792725655337024d88409efddbe1e0778057f9f233475dbea19b9fe89ab2b", func := "taquin/taquinlaw07.FloorDist", spec := "floorDist", unfollowed := true, recurses := true, apart := false, narrowed := true }
def FloorDistUptoSaid : Prop := floorDistUptoRow.holds Try.pinned (OpenSpec.upto floorDistSpec)

/-- 'taquinlaw07.FloorPaths', WHERE WHAT IT READS IS OF BULK AT MOST 1048576: true; the input reads as it did. -/
def floorPathsUptoRow : OpenClaim := { program := "ytilcbhnhcmdhkaa", sum := "e12792725655337024d88409efddbe1e0778057f9f233475dbea19b9fe89ab2b", func := "taquin/taquinlaw07.FloorPaths", spec := "floorPaths", unfollowed := true, recurses := true, apart := false, narrowed := true }
def FloorPathsUptoSaid : Prop := floorPathsUptoRow.holds Try.pinned (OpenSpec.upto floorPathsSpec)

/-- 'taquinlaw07.FloorTells', WHERE WHAT IT READS IS OF BULK AT MOST 1048576: true; the input reads as it did. -/
def floorTellsUptoRow : OpenClaim := { program := "ytilcbhnhcmdhkaa", sum := "e12792725655337024d88409efddbe1e0778057f9f233475dbea19b9fe89ab2b", func := "taquin/taquinlaw07.FloorTells", spec := "floorTells", unfollowed := true, recurses := true, apart := false, narrowed := true }
def FloorTellsUptoSaid : Prop := floorTellsUptoRow.holds Try.pinned (OpenSpec.upto floorTellsSpec)

/-- 'taquinlaw07.FloorCells', WHERE WHAT IT READS IS OF BULK AT MOST 1048576: true; the input reads as it did. -/
def floorCellsUptoRow : OpenClaim := { program := "ytilcbhnhcmdhkaa", sum := "e12792725655337024d88409efddbe1e0778057f9f233475dbea19b9fe89ab2b", func := "taquin/taquinlaw07.FloorCells", spec := "floorCells", unfollowed := true, recurses := true, apart := false, narrowed := true }
def FloorCellsUptoSaid : Prop := floorCellsUptoRow.holds Try.pinned (OpenSpec.upto floorCellsSpec)

end Rows
end Go.Proofs.Ytilcbhnhcmdhkaa
