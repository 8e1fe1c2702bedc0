/-
  Layer 14: the state at first.
-/
import Derived.Test.YtcdgmjfmmnklnaaBd9
namespace Go.Proofs.Ytcdgmjfmmnklnaa
open Go Go.Ab Go.Fl
set_option linter.unusedVariables false
set_option linter.unusedSimpArgs false
attribute [local irreducible] VC AW FStep ACall
set_option maxHeartbeats 4000000
def cellsF (s : Sit) (k : Nat) : List Int := (s.sh.take k).map (·.1)
def robsF (s : Sit) (k : Nat) : List Rob := (s.rb.take k).map fun x => (x.1, -1, x.2, 0, 0, false)
theorem cellsF_len {s : Sit} {k : Nat} (h : k ≤ s.sh.length) : (cellsF s k).length = k := by unfold cellsF; simp; omega
theorem robsF_len {s : Sit} {k : Nat} (h : k ≤ s.rb.length) : (robsF s k).length = k := by unfold robsF; simp; omega
theorem cellsF_next {s : Sit} {k : Nat} (h : k < s.sh.length) : ((ints (cellsF s k)).drop 0).take k ++ [[AV.i (s.sh[k]).1]] = ints (cellsF s (k + 1)) := by
  rw [List.drop_zero, List.take_of_length_le (by rw [ints_length, cellsF_len (by omega)]; exact Nat.le_refl _)]
  unfold cellsF
  rw [List.take_succ_eq_append_getElem h, List.map_append]
  simp only [ints, robsA, List.map_append, List.map_cons, List.map_nil]
theorem robsF_next {s : Sit} {k : Nat} (h : k < s.rb.length) : ((robsA (robsF s k)).drop 0).take k ++ [[AV.i (s.rb[k]).1, AV.i (-1), AV.i (s.rb[k]).2, AV.i 0, AV.i 0, AV.b false]] = robsA (robsF s (k + 1)) := by
  rw [List.drop_zero, List.take_of_length_le (by rw [List.length_map, robsF_len (by omega)]; exact Nat.le_refl _)]
  unfold robsF
  rw [List.take_succ_eq_append_getElem h, List.map_append]
  simp only [ints, robsA, List.map_append, List.map_cons, List.map_nil]
theorem robs_idf (l : List Rob) : ∀ e, e ∈ robsA l → AV.idfL e = true := by intro e he; obtain ⟨i, _, rfl⟩ := List.mem_map.1 he; rfl
end Go.Proofs.Ytcdgmjfmmnklnaa
