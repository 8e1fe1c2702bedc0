/-
  No cell of these rows narrows 'for every input' (looked for: loops, veiled, ifaces, maps, wideKeys, modest, calm, conditions, laid).
  DERIVED. THE GIVEN ROWS OF THIS SEAT. 4 by the template 'for every input the law returns true; each argument reads behind the call as it read before'; 0 by the template 'total and deterministic' (their statements: YtaooanolcobklaaTotals.lean).
  GIVEN WITH THE SEED: the statements are not yours to turn. If you find one false, say at which input.
  Laid BY PROGRAM, IN A SANDBOX (cutbox-rows.mjs): the forced cells as the released guide's own fill.sh prints them over the translation cad39cd6c9d5b376… (all of the seat's roots in one cut). By AI agents, Wed Nov 11 2026. No macro, syntax, notation, axiom, sorry.
-/
import Derived.Test.YtaooanolcobklaaChecked
import GoSem.Claim
import GoSem.ClaimJoined
import GoSem.ClaimMapViews
import Derived.JoinedTies
import Derived.KernelRfl
namespace Go.Proofs.Ytaooanolcobklaa
/- THE CELL 'sum', in the pinned program and in every row, IS THE sha256 OF THE DUMP (.gsa) THAT YtaooanolcobklaaProg.lean LOADS. Nothing in Lean hashes anything: it is a label: what it is worth is what the hold of that sum in a sandbox is worth. -/
noncomputable def Try.pinned : Pinned := { name := "ytaooanolcobklaa", sum := "cad39cd6c9d5b37602aa9f97dedb922a390f7d92923fa06f2e008859be8f255c", checked := Try.checked }
namespace Rows
def none {H : Type} : Left H := { results := [], args := [] }

/-- 'taquinlaw40.LookFewer': WHATEVER THE INPUT: true; the input reads as it did. -/
def lookFewerSpec : ChangeSpec := { name := "lookFewer", fn := fun _ => fun
  | [d1, d2, d3] => { results := [.lit (.bool true)], args := [d1, d2, d3] }
  | _ => none }
def lookFewerRow : OpenClaim := { program := "ytaooanolcobklaa", sum := "cad39cd6c9d5b37602aa9f97dedb922a390f7d92923fa06f2e008859be8f255c", func := "taquin/taquinlaw40.LookFewer", spec := "lookFewer", unfollowed := true, recurses := true, plainKeys := false, apart := false }
def LookFewerSaid : Prop := lookFewerRow.holds Try.pinned (OpenSpec.ofChange lookFewerSpec)

/-- ITS FALSE NEIGHBOUR: 'it returns false'. Refute it at one input. -/
def lookFewerWrong : ChangeSpec := { name := "lookFewer", fn := fun _ => fun
  | [d1, d2, d3] => { results := [.lit (.bool false)], args := [d1, d2, d3] }
  | _ => none }
def LookFewerWrongFalsely : Prop := lookFewerRow.holds Try.pinned (OpenSpec.ofChange lookFewerWrong)

/-- 'taquinlaw40.LookTells': WHATEVER THE INPUT: true; the input reads as it did. -/
def lookTellsSpec : ChangeSpec := { name := "lookTells", fn := fun _ => fun
  | [d1, d2, d3, d4] => { results := [.lit (.bool true)], args := [d1, d2, d3, d4] }
  | _ => none }
def lookTellsRow : OpenClaim := { program := "ytaooanolcobklaa", sum := "cad39cd6c9d5b37602aa9f97dedb922a390f7d92923fa06f2e008859be8f255c", func := "taquin/taquinlaw40.LookTells", spec := "lookTells", unfollowed := true, recurses := true, plainKeys := false, apart := false }
def LookTellsSaid : Prop := lookTellsRow.holds Try.pinned (OpenSpec.ofChange lookTellsSpec)

/-- ITS FALSE NEIGHBOUR: 'it returns false'. Refute it at one input. -/
def lookTellsWrong : ChangeSpec := { name := "lookTells", fn := fun _ => fun
  | [d1, d2, d3, d4] => { results := [.lit (.bool false)], args := [d1, d2, d3, d4] }
  | _ => none }
def LookTellsWrongFalsely : Prop := lookTellsRow.holds Try.pinned (OpenSpec.ofChange lookTellsWrong)

/-- 'taquinlaw40.LookDecides': WHATEVER THE INPUT: true; the input reads as it did. -/
def lookDecidesSpec : ChangeSpec := { name := "lookDecides", fn := fun _ => fun
  | [d1, d2, d3] => { results := [.lit (.bool true)], args := [d1, d2, d3] }
  | _ => none }
def lookDecidesRow : OpenClaim := { program := "ytaooanolcobklaa", sum := "cad39cd6c9d5b37602aa9f97dedb922a390f7d92923fa06f2e008859be8f255c", func := "taquin/taquinlaw40.LookDecides", spec := "lookDecides", unfollowed := true, recurses := true, plainKeys := false, apart := false }
def LookDecidesSaid : Prop := lookDecidesRow.holds Try.pinned (OpenSpec.ofChange lookDecidesSpec)

/-- ITS FALSE NEIGHBOUR: 'it returns false'. Refute it at one input. -/
def lookDecidesWrong : ChangeSpec := { name := "lookDecides", fn := fun _ => fun
  | [d1, d2, d3] => { results := [.lit (.bool false)], args := [d1, d2, d3] }
  | _ => none }
def LookDecidesWrongFalsely : Prop := lookDecidesRow.holds Try.pinned (OpenSpec.ofChange lookDecidesWrong)

/-- 'taquinlaw40.LookAll': WHATEVER THE INPUT: true; the input reads as it did. -/
def lookAllSpec : ChangeSpec := { name := "lookAll", fn := fun _ => fun
  | [d1, d2] => { results := [.lit (.bool true)], args := [d1, d2] }
  | _ => none }
def lookAllRow : OpenClaim := { program := "ytaooanolcobklaa", sum := "cad39cd6c9d5b37602aa9f97dedb922a390f7d92923fa06f2e008859be8f255c", func := "taquin/taquinlaw40.LookAll", spec := "lookAll", unfollowed := true, recurses := true, plainKeys := false, apart := false }
def LookAllSaid : Prop := lookAllRow.holds Try.pinned (OpenSpec.ofChange lookAllSpec)

/-- ITS FALSE NEIGHBOUR: 'it returns false'. Refute it at one input. -/
def lookAllWrong : ChangeSpec := { name := "lookAll", fn := fun _ => fun
  | [d1, d2] => { results := [.lit (.bool false)], args := [d1, d2] }
  | _ => none }
def LookAllWrongFalsely : Prop := lookAllRow.holds Try.pinned (OpenSpec.ofChange lookAllWrong)

/- THE SECOND FORM. 'bulk': how many values and letters a reading holds, each counted each time it is reached (what is shared counts as often as it is met; a slice's spare places count too). A statement '..UptoSaid' is the law's where the arguments, and the package variables that the reading takes, are together of bulk at most 1048576: NARROWER than '..Said'. Prove '..Said' where nothing that the law and all that it calls make is longer than what came in: it says more and counts as full. Else prove '..UptoSaid'. A law counts once. -/
mutual
def uptoBulk {H : Type} : DataW H → Nat
  | .lit (.string bytes) => bytes.length + 1
  | .lit _ => 1
  | .nil => 1
  | .ptr d => uptoBulk d + 1
  | .slice elems spare => uptoBulkAll elems + uptoBulkAll spare + 1
  | .agg parts => uptoBulkAll parts + 1
  | .iface _ d => uptoBulk d + 1
  | .map entries => uptoBulkEntries entries + 1
  | .held _ => 1
def uptoBulkAll {H : Type} : List (DataW H) → Nat
  | [] => 0
  | d :: r => uptoBulk d + uptoBulkAll r
def uptoBulkEntries {H : Type} : List (Lit × DataW H) → Nat
  | [] => 0
  | x :: r => uptoBulkEntry x + uptoBulkEntries r
def uptoBulkEntry {H : Type} : Lit × DataW H → Nat
  | (.string bytes, d) => bytes.length + uptoBulk d + 1
  | (_, d) => uptoBulk d + 1
 end
def uptoSmall : (H : Type) → List (DataW H) → Bool := fun _ ds => decide (uptoBulkAll ds ≤ 1048576)
def OpenSpec.upto (s : _root_.Go.ChangeSpec) : _root_.Go.OpenSpec := { _root_.Go.OpenSpec.ofChange s with cond := some uptoSmall }

/-- 'taquinlaw40.LookFewer', WHERE WHAT IT READS IS OF BULK AT MOST 1048576: true; the input reads as it did. -/
def lookFewerUptoRow : OpenClaim := { program := "ytaooanolcobklaa", sum := "cad39cd6c9d5b37602aa9f97dedb922a390f7d92923fa06f2e008859be8f255c", func := "taquin/taquinlaw40.LookFewer", spec := "lookFewer", unfollowed := true, recurses := true, plainKeys := false, apart := false, narrowed := true }
def LookFewerUptoSaid : Prop := lookFewerUptoRow.holds Try.pinned (OpenSpec.upto lookFewerSpec)

/-- 'taquinlaw40.LookTells', WHERE WHAT IT READS IS OF BULK AT MOST 1048576: true; the input reads as it did. -/
def lookTellsUptoRow : OpenClaim := { program := "ytaooanolcobklaa", sum := "cad39cd6c9d5b37602aa9f97dedb922a390f7d92923fa06f2e008859be8f255c", func := "taquin/taquinlaw40.LookTells", spec := "lookTells", unfollowed := true, recurses := true, plainKeys := false, apart := false, narrowed := true }
def LookTellsUptoSaid : Prop := lookTellsUptoRow.holds Try.pinned (OpenSpec.upto lookTellsSpec)

/-- 'taquinlaw40.LookDecides', WHERE WHAT IT READS IS OF BULK AT MOST 1048576: true; the input reads as it did. -/
def lookDecidesUptoRow : OpenClaim := { program := "ytaooanolcobklaa", sum := "cad39cd6c9d5b37602aa9f97dedb922a390f7d92923fa06f2e008859be8f255c", func := "taquin/taquinlaw40.LookDecides", spec := "lookDecides", unfollowed := true, recurses := true, plainKeys := false, apart := false, narrowed := true }
def LookDecidesUptoSaid : Prop := lookDecidesUptoRow.holds Try.pinned (OpenSpec.upto lookDecidesSpec)

/-- 'taquinlaw40.LookAll', WHERE WHAT IT READS IS OF BULK AT MOST 1048576: true; the input reads as it did. -/
def lookAllUptoRow : OpenClaim := { program := "ytaooanolcobklaa", sum := "cad39cd6c9d5b37602aa9f97dedb922a390f7d92923fa06f2e008859be8f255c", func := "taquin/taquinlaw40.LookAll", spec := "lookAll", unfollowed := true, recurses := true, plainKeys := false, apart := false, narrowed := true }
def LookAllUptoSaid : Prop := lookAllUptoRow.holds Try.pinned (OpenSpec.upto lookAllSpec)

end Rows
end Go.Proofs.Ytaooanolcobklaa
