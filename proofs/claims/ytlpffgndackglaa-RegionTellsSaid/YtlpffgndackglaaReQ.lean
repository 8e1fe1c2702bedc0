/-
  What Of makes of a list.
-/
import Derived.Test.YtlpffgndackglaaReT
import Derived.Test.YtlpffgndackglaaReE
namespace Go.Proofs.Ytlpffgndackglaa
open Go Go.Ab Go.Fl Go.Re
set_option linter.unusedVariables false
set_option linter.unusedSimpArgs false
set_option maxHeartbeats 4000000
theorem comp_mem (l : List Int) (x : Int) : ∀ m, m ≤ l.length → (x ∈ compN l m ↔ x ∈ l.take m)
  | 0, _ => by simp [compN]
  | m + 1, hm => by
    have ih := comp_mem l x m (by omega)
    rw [List.take_succ_eq_append_getElem (by omega)]
    by_cases e : 0 < m ∧ l.getD m 0 = l.getD (m - 1) 0
    · rw [comp_dup e.1 e.2, ih, List.mem_append, List.mem_singleton]
      refine ⟨.inl, fun h => h.elim id fun h => ?_⟩
      have e2 := e.2
      rw [getD_el (by omega), getD_el (by omega)] at e2
      rw [h, e2]
      exact List.mem_take_iff_getElem.2 ⟨m - 1, by omega, rfl⟩
    · have : compN l (m + 1) = compN l m ++ [l.getD m 0] := by
        unfold compN; rw [if_neg e]; cases m <;> rfl
      rw [this, List.mem_append, List.mem_append, ih, getD_el (by omega)]
theorem comp_asc {l : List Int} (hs : l.Pairwise (· ≤ ·)) : ∀ m, m ≤ l.length → Asc (compN l m)
  | 0, _ => List.Pairwise.nil
  | m + 1, hm => by
    have ih := comp_asc hs m (by omega)
    by_cases e : 0 < m ∧ l.getD m 0 = l.getD (m - 1) 0
    · rw [comp_dup e.1 e.2]; exact ih
    · have : compN l (m + 1) = compN l m ++ [l.getD m 0] := by
        unfold compN; rw [if_neg e]; cases m <;> rfl
      rw [this]
      refine List.pairwise_append.2 ⟨ih, List.pairwise_singleton _ _, fun x hx y hy => ?_⟩
      rw [List.mem_singleton] at hy
      rw [comp_mem l x m (by omega)] at hx
      obtain ⟨i, hi, rfl⟩ := List.mem_take_iff_getElem.1 hx
      have him : i < m := by omega
      rw [hy, getD_el (by omega)]
      have h1 : l[m - 1] ≤ l[m] := List.pairwise_iff_getElem.1 hs (m - 1) m _ _ (by omega)
      have h2 : l[i] ≤ l[m - 1] := by
        by_cases ei : i = m - 1
        · subst ei; exact Int.le_refl _
        · exact List.pairwise_iff_getElem.1 hs i (m - 1) _ _ (by omega)
      have h3 : l[m] ≠ l[m - 1] := fun q => e ⟨by omega, by rw [getD_el (by omega), getD_el (by omega)]; exact q⟩
      omega
theorem sorted_pw (l : List Int) : (sorted l).Pairwise (· ≤ ·) := by
  have h := List.pairwise_mergeSort (le := fun x y : Int => decide (x ≤ y)) (fun a b c h1 h2 => by simp at *; omega) (fun a b => by simp; omega) l
  exact h.imp fun h => by simpa using h
theorem mem_of {l : List Int} {x : Int} : x ∈ ofM l ↔ x ∈ l ∧ 0 ≤ x ∧ x < 4096 := by
  unfold ofM compM
  rw [comp_mem _ _ _ (Nat.le_refl _), List.take_length]
  unfold sorted keepM
  rw [List.mem_mergeSort, List.mem_filter]
  unfold noCell
  simp
theorem of_reg (l : List Int) : RegP (ofM l) := ⟨comp_asc (sorted_pw _) _ (Nat.le_refl _), fun _ hx => (mem_of.1 hx).2⟩

end Go.Proofs.Ytlpffgndackglaa
