/-
  A logic of values for the walk, twenty-ninth part: conversions of integers whose types are told by name.
-/
import Derived.Test.YtgibgknkfcbopaaAb28
namespace Go.Ab
open Go
set_option linter.unusedVariables false
set_option linter.unusedSimpArgs false
def IntT (P : Program) (t : TypeId) (k : IntKind) : Prop := P.underlying t = some (.int k)
section
variable {P : Program} {env : Env} {h : Hp} {d : Option Nat} {ty : TypeId} {pos : String} {af : Array Edge} {g : Option (Nat × Bool)}
theorem fs_convT {s t : TypeId} {x : Operand} {ks k kk : IntKind} {n : Int} (hs : IntT P s ks) (ht : IntT P t k) (hx : evu env x = some (.v (.int kk n))) (hn : k.wrap n = n) :
    FStep P ⟨d, .convert s t x, ty, pos, af, g⟩ env h 0 (fun _ => .v (.int k n)) (fun _ => []) := fs_convII hs ht hx hn
theorem wrapU {n : Int} (h0 : 0 ≤ n) (h1 : n < 18446744073709551616) : IntKind.u64.wrap n = n := by
  simp [IntKind.wrap, IntKind.signed, IntKind.bits]; omega
end
end Go.Ab
