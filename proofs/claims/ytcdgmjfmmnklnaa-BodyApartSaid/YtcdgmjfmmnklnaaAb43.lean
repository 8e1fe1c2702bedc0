/-
  A logic of values for the walk: maps that are walked through, entries that are taken out, the number of entries.
-/
import Derived.Test.YtcdgmjfmmnklnaaAb39
import Derived.Maps.RangeRun

namespace Go.Ab
open Go Go.MapKept
set_option linter.unusedVariables false
set_option linter.unusedSimpArgs false

section
variable {P : Program} {env : Env} {h : Hp}
variable {d : Option Nat} {ty : TypeId} {pos : String} {af : Array Edge} {g : Option (Nat × Bool)}
variable {n : Nat × Nat} {ops : Array Oper} {rest : List Oper} {K : Env → Hp → Prop}
variable {t kt et : TypeId} {good : Value → Prop} {x y z : Operand} {k i : Nat} {kv : Value} {ks : List Value} {vs : List AV} {v : AV}

theorem Stamps.erase {l : Array MapEntry} {ck i : Nat} (h : Stamps l ck) : Stamps (l.eraseIdxIfInBounds i) ck := by
  have e : (l.eraseIdxIfInBounds i).toList = l.toList.eraseIdx i := by
    unfold Array.eraseIdxIfInBounds
    split
    · simp
    · rename_i hh
      rw [List.eraseIdx_of_length_le (by simpa using hh)]
  refine ⟨?_, fun q hq => h.2 q (by rw [e] at hq; exact List.mem_of_mem_eraseIdx hq)⟩
  rw [e]
  have : (l.toList.eraseIdx i).map (·.born) = (l.toList.map (·.born)).eraseIdx i := by
    apply List.ext_getElem?
    intro j
    simp only [List.getElem?_map, List.getElem?_eraseIdx]
    split <;> simp
  rw [this]
  exact h.1.eraseIdx i
end
end Go.Ab
