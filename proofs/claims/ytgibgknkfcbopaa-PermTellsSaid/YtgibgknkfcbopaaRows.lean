/-
  No cell of these rows narrows 'for every input' (looked for: loops, veiled, ifaces, maps, wideKeys, modest, calm, conditions, laid).
  DERIVED. THE GIVEN ROWS OF THIS SEAT. 5 by the template 'for every input the law returns true; each argument reads behind the call as it read before'; 0 by the template 'total and deterministic' (their statements: YtgibgknkfcbopaaTotals.lean).
  GIVEN WITH THE SEED: the statements are not yours to turn. If you find one false, say at which input.
  Laid BY PROGRAM, IN A SANDBOX (cutbox-rows.mjs): the forced cells as the released guide's own fill.sh prints them over the translation 8a09932f3209c903… (all of the seat's roots in one cut). By AI agents, Wed Nov 11 2026. No macro, syntax, notation, axiom, sorry.
-/
import Derived.Test.YtgibgknkfcbopaaChecked
import GoSem.Claim
import GoSem.ClaimJoined
import GoSem.ClaimMapViews
import Derived.JoinedTies
import Derived.KernelRfl
namespace Go.Proofs.Ytgibgknkfcbopaa
/- THE CELL 'sum', in the pinned program and in every row, IS THE sha256 OF THE DUMP (.gsa) THAT YtgibgknkfcbopaaProg.lean LOADS. Nothing in Lean hashes anything: it is a label: what it is worth is what the hold of that sum in a sandbox is worth. -/
noncomputable def Try.pinned : Pinned := { name := "ytgibgknkfcbopaa", sum := "8a09932f3209c903c5d689d710ce4e971cfda7922b97fdcc2470af055731aa5c", checked := Try.checked }
namespace Rows
def none {H : Type} : Left H := { results := [], args := [] }

/-- 'taquinlaw37.PermRanks': WHATEVER THE INPUT: true; the input reads as it did. -/
def permRanksSpec : ChangeSpec := { name := "permRanks", fn := fun _ => fun
  | [d1, d2, d3] => { results := [.lit (.bool true)], args := [d1, d2, d3] }
  | _ => none }
def permRanksRow : OpenClaim := { program := "ytgibgknkfcbopaa", sum := "8a09932f3209c903c5d689d710ce4e971cfda7922b97fdcc2470af055731aa5c", func := "taquin/taquinlaw37.PermRanks", spec := "permRanks", unfollowed := true, recurses := true, apart := false }
def PermRanksSaid : Prop := permRanksRow.holds Try.pinned (OpenSpec.ofChange permRanksSpec)

/-- ITS FALSE NEIGHBOUR: 'it returns false'. Refute it at one input. -/
def permRanksWrong : ChangeSpec := { name := "permRanks", fn := fun _ => fun
  | [d1, d2, d3] => { results := [.lit (.bool false)], args := [d1, d2, d3] }
  | _ => none }
def PermRanksWrongFalsely : Prop := permRanksRow.holds Try.pinned (OpenSpec.ofChange permRanksWrong)

/-- 'taquinlaw37.PermCycles': WHATEVER THE INPUT: true; the input reads as it did. -/
def permCyclesSpec : ChangeSpec := { name := "permCycles", fn := fun _ => fun
  | [d1, d2, d3] => { results := [.lit (.bool true)], args := [d1, d2, d3] }
  | _ => none }
def permCyclesRow : OpenClaim := { program := "ytgibgknkfcbopaa", sum := "8a09932f3209c903c5d689d710ce4e971cfda7922b97fdcc2470af055731aa5c", func := "taquin/taquinlaw37.PermCycles", spec := "permCycles", unfollowed := true, recurses := true, apart := false }
def PermCyclesSaid : Prop := permCyclesRow.holds Try.pinned (OpenSpec.ofChange permCyclesSpec)

/-- ITS FALSE NEIGHBOUR: 'it returns false'. Refute it at one input. -/
def permCyclesWrong : ChangeSpec := { name := "permCycles", fn := fun _ => fun
  | [d1, d2, d3] => { results := [.lit (.bool false)], args := [d1, d2, d3] }
  | _ => none }
def PermCyclesWrongFalsely : Prop := permCyclesRow.holds Try.pinned (OpenSpec.ofChange permCyclesWrong)

/-- 'taquinlaw37.PermGroup': WHATEVER THE INPUT: true; the input reads as it did. -/
def permGroupSpec : ChangeSpec := { name := "permGroup", fn := fun _ => fun
  | [d1, d2, d3] => { results := [.lit (.bool true)], args := [d1, d2, d3] }
  | _ => none }
def permGroupRow : OpenClaim := { program := "ytgibgknkfcbopaa", sum := "8a09932f3209c903c5d689d710ce4e971cfda7922b97fdcc2470af055731aa5c", func := "taquin/taquinlaw37.PermGroup", spec := "permGroup", unfollowed := true, recurses := true, apart := false }
def PermGroupSaid : Prop := permGroupRow.holds Try.pinned (OpenSpec.ofChange permGroupSpec)

/-- ITS FALSE NEIGHBOUR: 'it returns false'. Refute it at one input. -/
def permGroupWrong : ChangeSpec := { name := "permGroup", fn := fun _ => fun
  | [d1, d2, d3] => { results := [.lit (.bool false)], args := [d1, d2, d3] }
  | _ => none }
def PermGroupWrongFalsely : Prop := permGroupRow.holds Try.pinned (OpenSpec.ofChange permGroupWrong)

/-- 'taquinlaw37.PermAll': WHATEVER THE INPUT: true; the input reads as it did. -/
def permAllSpec : ChangeSpec := { name := "permAll", fn := fun _ => fun
  | [d] => { results := [.lit (.bool true)], args := [d] }
  | _ => none }
def permAllRow : OpenClaim := { program := "ytgibgknkfcbopaa", sum := "8a09932f3209c903c5d689d710ce4e971cfda7922b97fdcc2470af055731aa5c", func := "taquin/taquinlaw37.PermAll", spec := "permAll", unfollowed := true, recurses := true, apart := false }
def PermAllSaid : Prop := permAllRow.holds Try.pinned (OpenSpec.ofChange permAllSpec)

/-- ITS FALSE NEIGHBOUR: 'it returns false'. Refute it at one input. -/
def permAllWrong : ChangeSpec := { name := "permAll", fn := fun _ => fun
  | [d] => { results := [.lit (.bool false)], args := [d] }
  | _ => none }
def PermAllWrongFalsely : Prop := permAllRow.holds Try.pinned (OpenSpec.ofChange permAllWrong)

/-- 'taquinlaw37.PermTells': WHATEVER THE INPUT: true; the input reads as it did. -/
def permTellsSpec : ChangeSpec := { name := "permTells", fn := fun _ => fun
  | [d1, d2, d3, d4] => { results := [.lit (.bool true)], args := [d1, d2, d3, d4] }
  | _ => none }
def permTellsRow : OpenClaim := { program := "ytgibgknkfcbopaa", sum := "8a09932f3209c903c5d689d710ce4e971cfda7922b97fdcc2470af055731aa5c", func := "taquin/taquinlaw37.PermTells", spec := "permTells", unfollowed := true, recurses := true, apart := false }
def PermTellsSaid : Prop := permTellsRow.holds Try.pinned (OpenSpec.ofChange permTellsSpec)

/-- ITS FALSE NEIGHBOUR: 'it returns false'. Refute it at one input. -/
def permTellsWrong : ChangeSpec := { name := "permTells", fn := fun _ => fun
  | [d1, d2, d3, d4] => { results := [.lit (.bool false)], args := [d1, d2, d3, d4] }
  | _ => none }
def PermTellsWrongFalsely : Prop := permTellsRow.holds Try.pinned (OpenSpec.ofChange permTellsWrong)

/- THE SECOND FORM. 'bulk': how many values and letters a reading holds, each counted each time it is reached (what is shared counts as often as it is met; a slice's spare places count too). A statement '..UptoSaid' is the law's where the arguments, and the package variables that the reading takes, are together of bulk at most 1048576: NARROWER than '..Said'. Prove '..Said' where nothing that the law and all that it calls make is longer than what came in: it says more and counts as full. Else prove '..UptoSaid'. A law counts once. -/
mutual
def uptoBulk {H : Type} : DataW H → Nat
  | .lit (.string bytes) => bytes.length + 1
  | .lit _ => 1
  | .nil => 1
  | .ptr d => uptoBulk d + 1
  | .slice elems spare => uptoBulkAll elems + uptoBulkAll spare + 1
  | .agg parts => uptoBulkAll parts + 1
  | .iface _ d => uptoBulk d + 1
  | .map entries => uptoBulkEntries entries + 1
  | .held _ => 1
def uptoBulkAll {H : Type} : List (DataW H) → Nat
  | [] => 0
  | d :: r => uptoBulk d + uptoBulkAll r
def uptoBulkEntries {H : Type} : List (Lit × DataW H) → Nat
  | [] => 0
  | x :: r => uptoBulkEntry x + uptoBulkEntries r
def uptoBulkEntry {H : Type} : Lit × DataW H → Nat
  | (.string bytes, d) => bytes.length + uptoBulk d + 1
  | (_, d) => uptoBulk d + 1
 end
def uptoSmall : (H : Type) → List (DataW H) → Bool := fun _ ds => decide (uptoBulkAll ds ≤ 1048576)
def OpenSpec.upto (s : _root_.Go.ChangeSpec) : _root_.Go.OpenSpec := { _root_.Go.OpenSpec.ofChange s with cond := some uptoSmall }

/-- 'taquinlaw37.PermRanks', WHERE WHAT IT READS IS OF BULK AT MOST 1048576: true; the input reads as it did. -/
def permRanksUptoRow : OpenClaim := { program := "ytgibgknkfcbopaa", sum := "8a09932f3209c903c5d689d710ce4e971cfda7922b97fdcc2470af055731aa5c", func := "taquin/taquinlaw37.PermRanks", spec := "permRanks", unfollowed := true, recurses := true, apart := false, narrowed := true }
def PermRanksUptoSaid : Prop := permRanksUptoRow.holds Try.pinned (OpenSpec.upto permRanksSpec)

/-- 'taquinlaw37.PermCycles', WHERE WHAT IT READS IS OF BULK AT MOST 1048576: true; the input reads as it did. -/
def permCyclesUptoRow : OpenClaim := { program := "ytgibgknkfcbopaa", sum := "8a09932f3209c903c5d689d710ce4e971cfda7922b97fdcc2470af055731aa5c", func := "taquin/taquinlaw37.PermCycles", spec := "permCycles", unfollowed := true, recurses := true, apart := false, narrowed := true }
def PermCyclesUptoSaid : Prop := permCyclesUptoRow.holds Try.pinned (OpenSpec.upto permCyclesSpec)

/-- 'taquinlaw37.PermGroup', WHERE WHAT IT READS IS OF BULK AT MOST 1048576: true; the input reads as it did. -/
def permGroupUptoRow : OpenClaim := { program := "ytgibgknkfcbopaa", sum := "8a09932f3209c903c5d689d710ce4e971cfda7922b97fdcc2470af055731aa5c", func := "taquin/taquinlaw37.PermGroup", spec := "permGroup", unfollowed := true, recurses := true, apart := false, narrowed := true }
def PermGroupUptoSaid : Prop := permGroupUptoRow.holds Try.pinned (OpenSpec.upto permGroupSpec)

/-- 'taquinlaw37.PermAll', WHERE WHAT IT READS IS OF BULK AT MOST 1048576: true; the input reads as it did. -/
def permAllUptoRow : OpenClaim := { program := "ytgibgknkfcbopaa", sum := "8a09932f3209c903c5d689d710ce4e971cfda7922b97fdcc2470af055731aa5c", func := "taquin/taquinlaw37.PermAll", spec := "permAll", unfollowed := true, recurses := true, apart := false, narrowed := true }
def PermAllUptoSaid : Prop := permAllUptoRow.holds Try.pinned (OpenSpec.upto permAllSpec)

/-- 'taquinlaw37.PermTells', WHERE WHAT IT READS IS OF BULK AT MOST 1048576: true; the input reads as it did. -/
def permTellsUptoRow : OpenClaim := { program := "ytgibgknkfcbopaa", sum := "8a09932f3209c903c5d689d710ce4e971cfda7922b97fdcc2470af055731aa5c", func := "taquin/taquinlaw37.PermTells", spec := "permTells", unfollowed := true, recurses := true, apart := false, narrowed := true }
def PermTellsUptoSaid : Prop := permTellsUptoRow.holds Try.pinned (OpenSpec.upto permTellsSpec)

end Rows
end Go.Proofs.Ytgibgknkfcbopaa
