/-
  No cell of these rows narrows 'for every input' (looked for: loops, veiled, ifaces, maps, wideKeys, modest, calm, conditions, laid).
  DERIVED. THE GIVEN ROWS OF THIS SEAT. 4 by the template 'for every input the law returns true; each argument reads behind the call as it read before'; 0 by the template 'total and deterministic' (their statements: YtmmkhmilpeodnaaGreatTotals.lean).
  GIVEN WITH THE SEED: the statements are not yours to turn. If you find one false, say at which input.
  Laid BY PROGRAM, IN A SANDBOX (cutbox-rows.mjs): the forced cells as the released guide's own fill.sh prints them over the translation bd12328a2983bef5… (all of the seat's roots in one cut). By AI agents, Wed Nov 11 2026. No macro, syntax, notation, axiom, sorry.
-/
import Derived.Test.YtmmkhmilpeodnaaGreatChecked
import GoSem.Claim
import GoSem.ClaimJoined
import GoSem.ClaimMapViews
import Derived.JoinedTies
import Derived.KernelRfl
namespace Go.Proofs.YtmmkhmilpeodnaaGreat
/- THE CELL 'sum', in the pinned program and in every row, IS THE sha256 OF THE DUMP (.gsa) THAT YtmmkhmilpeodnaaGreatProg.lean LOADS. Nothing in Lean hashes anything: it is a label: what it is worth is what the hold of that sum in a sandbox is worth. -/
noncomputable def Tryz.pinned : Pinned := { name := "ytmmkhmilpeodnaagreat", sum := "bd12328a2983bef5a57ea6d41af510344c2f26f6e43628a72b22532334d6a9a0", checked := Tryz.checked }
namespace Rows
def none {H : Type} : Left H := { results := [], args := [] }

/-- 'taquinlaw39.LedgerTells': WHATEVER THE INPUT: true; the input reads as it did. -/
def ledgerTellsSpec : ChangeSpec := { name := "ledgerTells", fn := fun _ => fun
  | [d1, d2, d3, d4, d5, d6, d7] => { results := [.lit (.bool true)], args := [d1, d2, d3, d4, d5, d6, d7] }
  | _ => none }
def ledgerTellsRow : OpenClaim := { program := "ytmmkhmilpeodnaagreat", sum := "bd12328a2983bef5a57ea6d41af510344c2f26f6e43628a72b22532334d6a9a0", func := "taquin/taquinlaw39.LedgerTells", spec := "ledgerTells", unfollowed := true, recurses := true, apart := false }
def LedgerTellsSaid : Prop := ledgerTellsRow.holds Tryz.pinned (OpenSpec.ofChange ledgerTellsSpec)

/-- ITS FALSE NEIGHBOUR: 'it returns false'. Refute it at one input. -/
def ledgerTellsWrong : ChangeSpec := { name := "ledgerTells", fn := fun _ => fun
  | [d1, d2, d3, d4, d5, d6, d7] => { results := [.lit (.bool false)], args := [d1, d2, d3, d4, d5, d6, d7] }
  | _ => none }
def LedgerTellsWrongFalsely : Prop := ledgerTellsRow.holds Tryz.pinned (OpenSpec.ofChange ledgerTellsWrong)

/-- 'taquinlaw39.LedgerSure': WHATEVER THE INPUT: true; the input reads as it did. -/
def ledgerSureSpec : ChangeSpec := { name := "ledgerSure", fn := fun _ => fun
  | [d1, d2, d3, d4, d5] => { results := [.lit (.bool true)], args := [d1, d2, d3, d4, d5] }
  | _ => none }
def ledgerSureRow : OpenClaim := { program := "ytmmkhmilpeodnaagreat", sum := "bd12328a2983bef5a57ea6d41af510344c2f26f6e43628a72b22532334d6a9a0", func := "taquin/taquinlaw39.LedgerSure", spec := "ledgerSure", unfollowed := true, recurses := true, apart := false }
def LedgerSureSaid : Prop := ledgerSureRow.holds Tryz.pinned (OpenSpec.ofChange ledgerSureSpec)

/-- ITS FALSE NEIGHBOUR: 'it returns false'. Refute it at one input. -/
def ledgerSureWrong : ChangeSpec := { name := "ledgerSure", fn := fun _ => fun
  | [d1, d2, d3, d4, d5] => { results := [.lit (.bool false)], args := [d1, d2, d3, d4, d5] }
  | _ => none }
def LedgerSureWrongFalsely : Prop := ledgerSureRow.holds Tryz.pinned (OpenSpec.ofChange ledgerSureWrong)

/-- 'taquinlaw39.LedgerTrue': WHATEVER THE INPUT: true; the input reads as it did. -/
def ledgerTrueSpec : ChangeSpec := { name := "ledgerTrue", fn := fun _ => fun
  | [d1, d2, d3, d4] => { results := [.lit (.bool true)], args := [d1, d2, d3, d4] }
  | _ => none }
def ledgerTrueRow : OpenClaim := { program := "ytmmkhmilpeodnaagreat", sum := "bd12328a2983bef5a57ea6d41af510344c2f26f6e43628a72b22532334d6a9a0", func := "taquin/taquinlaw39.LedgerTrue", spec := "ledgerTrue", unfollowed := true, recurses := true, apart := false }
def LedgerTrueSaid : Prop := ledgerTrueRow.holds Tryz.pinned (OpenSpec.ofChange ledgerTrueSpec)

/-- ITS FALSE NEIGHBOUR: 'it returns false'. Refute it at one input. -/
def ledgerTrueWrong : ChangeSpec := { name := "ledgerTrue", fn := fun _ => fun
  | [d1, d2, d3, d4] => { results := [.lit (.bool false)], args := [d1, d2, d3, d4] }
  | _ => none }
def LedgerTrueWrongFalsely : Prop := ledgerTrueRow.holds Tryz.pinned (OpenSpec.ofChange ledgerTrueWrong)

/-- 'taquinlaw39.LedgerExact': WHATEVER THE INPUT: true; the input reads as it did. -/
def ledgerExactSpec : ChangeSpec := { name := "ledgerExact", fn := fun _ => fun
  | [d1, d2, d3] => { results := [.lit (.bool true)], args := [d1, d2, d3] }
  | _ => none }
def ledgerExactRow : OpenClaim := { program := "ytmmkhmilpeodnaagreat", sum := "bd12328a2983bef5a57ea6d41af510344c2f26f6e43628a72b22532334d6a9a0", func := "taquin/taquinlaw39.LedgerExact", spec := "ledgerExact", unfollowed := true, recurses := true, apart := false }
def LedgerExactSaid : Prop := ledgerExactRow.holds Tryz.pinned (OpenSpec.ofChange ledgerExactSpec)

/-- ITS FALSE NEIGHBOUR: 'it returns false'. Refute it at one input. -/
def ledgerExactWrong : ChangeSpec := { name := "ledgerExact", fn := fun _ => fun
  | [d1, d2, d3] => { results := [.lit (.bool false)], args := [d1, d2, d3] }
  | _ => none }
def LedgerExactWrongFalsely : Prop := ledgerExactRow.holds Tryz.pinned (OpenSpec.ofChange ledgerExactWrong)

/- THE SECOND FORM. 'bulk': how many values and letters a reading holds, each counted each time it is reached (what is shared counts as often as it is met; a slice's spare places count too). A statement '..UptoSaid' is the law's where the arguments, and the package variables that the reading takes, are together of bulk at most 1048576: NARROWER than '..Said'. Prove '..Said' where nothing that the law and all that it calls make is longer than what came in: it says more and counts as full. Else prove '..UptoSaid'. A law counts once. -/
mutual
def uptoBulk {H : Type} : DataW H → Nat
  | .lit (.string bytes) => bytes.length + 1
  | .lit _ => 1
  | .nil => 1
  | .ptr d => uptoBulk d + 1
  | .slice elems spare => uptoBulkAll elems + uptoBulkAll spare + 1
  | .agg parts => uptoBulkAll parts + 1
  | .iface _ d => uptoBulk d + 1
  | .map entries => uptoBulkEntries entries + 1
  | .held _ => 1
def uptoBulkAll {H : Type} : List (DataW H) → Nat
  | [] => 0
  | d :: r => uptoBulk d + uptoBulkAll r
def uptoBulkEntries {H : Type} : List (Lit × DataW H) → Nat
  | [] => 0
  | x :: r => uptoBulkEntry x + uptoBulkEntries r
def uptoBulkEntry {H : Type} : Lit × DataW H → Nat
  | (.string bytes, d) => bytes.length + uptoBulk d + 1
  | (_, d) => uptoBulk d + 1
 end
def uptoSmall : (H : Type) → List (DataW H) → Bool := fun _ ds => decide (uptoBulkAll ds ≤ 1048576)
def OpenSpec.upto (s : _root_.Go.ChangeSpec) : _root_.Go.OpenSpec := { _root_.Go.OpenSpec.ofChange s with cond := some uptoSmall }

/-- 'taquinlaw39.LedgerTells', WHERE WHAT IT READS IS OF BULK AT MOST 1048576: true; the input reads as it did. -/
def ledgerTellsUptoRow : OpenClaim := { program := "ytmmkhmilpeodnaagreat", sum := "bd12328a2983bef5a57ea6d41af510344c2f26f6e43628a72b22532334d6a9a0", func := "taquin/taquinlaw39.LedgerTells", spec := "ledgerTells", unfollowed := true, recurses := true, apart := false, narrowed := true }
def LedgerTellsUptoSaid : Prop := ledgerTellsUptoRow.holds Tryz.pinned (OpenSpec.upto ledgerTellsSpec)

/-- 'taquinlaw39.LedgerSure', WHERE WHAT IT READS IS OF BULK AT MOST 1048576: true; the input reads as it did. -/
def ledgerSureUptoRow : OpenClaim := { program := "ytmmkhmilpeodnaagreat", sum := "bd12328a2983bef5a57ea6d41af510344c2f26f6e43628a72b22532334d6a9a0", func := "taquin/taquinlaw39.LedgerSure", spec := "ledgerSure", unfollowed := true, recurses := true, apart := false, narrowed := true }
def LedgerSureUptoSaid : Prop := ledgerSureUptoRow.holds Tryz.pinned (OpenSpec.upto ledgerSureSpec)

/-- 'taquinlaw39.LedgerTrue', WHERE WHAT IT READS IS OF BULK AT MOST 1048576: true; the input reads as it did. -/
def ledgerTrueUptoRow : OpenClaim := { program := "ytmmkhmilpeodnaagreat", sum := "bd12328a2983bef5a57ea6d41af510344c2f26f6e43628a72b22532334d6a9a0", func := "taquin/taquinlaw39.LedgerTrue", spec := "ledgerTrue", unfollowed := true, recurses := true, apart := false, narrowed := true }
def LedgerTrueUptoSaid : Prop := ledgerTrueUptoRow.holds Tryz.pinned (OpenSpec.upto ledgerTrueSpec)

/-- 'taquinlaw39.LedgerExact', WHERE WHAT IT READS IS OF BULK AT MOST 1048576: true; the input reads as it did. -/
def ledgerExactUptoRow : OpenClaim := { program := "ytmmkhmilpeodnaagreat", sum := "bd12328a2983bef5a57ea6d41af510344c2f26f6e43628a72b22532334d6a9a0", func := "taquin/taquinlaw39.LedgerExact", spec := "ledgerExact", unfollowed := true, recurses := true, apart := false, narrowed := true }
def LedgerExactUptoSaid : Prop := ledgerExactUptoRow.holds Tryz.pinned (OpenSpec.upto ledgerExactSpec)

end Rows
end Go.Proofs.YtmmkhmilpeodnaaGreat
