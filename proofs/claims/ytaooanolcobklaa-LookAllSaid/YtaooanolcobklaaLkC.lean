/-
  Layer 40, in plain terms: all permutations of up to four things.
-/
import Derived.Test.YtaooanolcobklaaLk0
import Derived.Test.YtaooanolcobklaaPm2
namespace Go.Lk
open Go.Pm
set_option linter.unusedVariables false
set_option linter.unusedSimpArgs false
set_option linter.unusedVariables false
set_option linter.unusedSimpArgs false

def ntsW (l : List Nat) : List Int := l.map fun n : Nat => (n : Int)
def allW (n : Nat) : Ws := (List.range (fact n)).map fun k => ntsW (unr n (List.range n) k)
def mvd (a : List Int) (k : Nat) : Nat := (List.range k).countP fun j => decide (cell a j ≠ (j : Int))
def someW (n : Nat) (w : Ws) : Ws := w.filter fun a => decide (mvd a n ≤ 2)
theorem mvd_succ (a : List Int) (k : Nat) : mvd a (k + 1) = mvd a k + if cell a k ≠ (k : Int) then 1 else 0 := by
  unfold mvd
  rw [List.range_succ, List.countP_append]
  simp [List.countP_cons]
theorem someW_snoc (n : Nat) (w : Ws) (a : List Int) : someW n (w ++ [a]) = someW n w ++ if mvd a n ≤ 2 then [a] else [] := by
  unfold someW
  rw [List.filter_append]
  by_cases h : mvd a n ≤ 2 <;> simp [h]
theorem mvd_le (a : List Int) (k : Nat) : mvd a k ≤ k := by
  have : mvd a k ≤ (List.range k).length := List.countP_le_length
  rwa [List.length_range] at this
theorem need_1 : ∀ id, id < 1 → need [((id : Nat) : Int)] (allW 1) = 0 := by decide +kernel
theorem need_2 : ∀ id, id < 2 → need [((id : Nat) : Int)] (allW 2) = 1 := by decide +kernel
theorem need_3 : ∀ id, id < 3 → need [((id : Nat) : Int)] (allW 3) = 2 := by decide +kernel
theorem need_4 : ∀ id, id < 4 → need [((id : Nat) : Int)] (allW 4) = 3 := by decide +kernel
end Go.Lk
