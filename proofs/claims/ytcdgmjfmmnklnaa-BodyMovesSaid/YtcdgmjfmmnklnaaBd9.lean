/-
  Layer 14: how sites stand in memory.
-/
import Derived.Test.YtcdgmjfmmnklnaaBd8
namespace Go.Proofs.Ytcdgmjfmmnklnaa
open Go Go.Ab Go.Fl
set_option linter.unusedVariables false
set_option linter.unusedSimpArgs false
abbrev Zon := List UInt8 × List Int × Int × Int × List (Int × Int)
abbrev zonA (z : Zon) : List AV := [.s z.1, .rowE (ints z.2.1) 1, .i z.2.2.1, .i z.2.2.2.1, .rowE (stksA z.2.2.2.2) 2]
abbrev zonsA (l : List Zon) : List (List AV) := l.map zonA
abbrev apsA (l : List (List UInt8 × List UInt8)) : List (List AV) := l.map fun x => [AV.s x.1, AV.s x.2]
abbrev shsA (l : List (Int × List UInt8)) : List (List AV) := l.map fun x => [AV.i x.1, AV.s x.2]
structure Sit where
  fl : Flo
  zn : List Zon
  ap : List (List UInt8 × List UInt8)
  sh : List (Int × List UInt8)
  rb : List (Int × Int)
abbrev sitA (s : Sit) : List AV := floorC s.fl ++ [.rowE (zonsA s.zn) 5, .rowE (apsA s.ap) 2, .rowE (shsA s.sh) 2, .rowE (stksA s.rb) 2]
theorem shs_len (l : List (Int × List UInt8)) : ∀ e, e ∈ shsA l → e.length = 2 := by intro e he; obtain ⟨n, _, rfl⟩ := List.mem_map.1 he; rfl
theorem shs_get {l : List (Int × List UInt8)} {k : Nat} (h : k < l.length) : (shsA l)[k]? = some [AV.i l[k].1, AV.s l[k].2] := by simp [h]
theorem stks_get {l : List (Int × Int)} {k : Nat} (h : k < l.length) : (stksA l)[k]? = some [AV.i l[k].1, AV.i l[k].2] := by simp [h]
def firstS (s : Sit) : Stt := ⟨0, s.sh.map (·.1), s.rb.map fun x => (x.1, -1, x.2, 0, 0, false), [], [], []⟩
end Go.Proofs.Ytcdgmjfmmnklnaa
