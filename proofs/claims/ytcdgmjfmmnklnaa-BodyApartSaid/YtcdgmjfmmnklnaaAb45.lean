/-
  A logic of values for the walk: strings.Builder, strconv.Itoa, the sorted keys of a map, maps.Clone.
-/
import Derived.Test.YtcdgmjfmmnklnaaAb44
import Derived.Lib.UnsafeStr
import Derived.RangeFuncGives
import Derived.Lib.SlKeysI
import Derived.Maps.Own

namespace Go.Ab
open Go
set_option linter.unusedVariables false
set_option linter.unusedSimpArgs false

section
variable {P : Program} {env : Env} {h : Hp}
variable {d : Option Nat} {ty : TypeId} {pos : String} {af : Array Edge} {g : Option (Nat × Bool)}

section
variable {n : Nat × Nat} {ops : Array Oper} {rest : List Oper} {K : Env → Hp → Prop}
end
end
end Go.Ab
