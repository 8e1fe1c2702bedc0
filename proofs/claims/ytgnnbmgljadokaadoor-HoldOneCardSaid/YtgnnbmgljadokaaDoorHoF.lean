/-
  HoldGives: giving slots, and giving them back.
-/
import Derived.Test.YtgnnbmgljadokaaDoorHoE
namespace Go.Proofs.YtgnnbmgljadokaaDoor
open Go Go.Ab Go.Ho Go.MapKept
set_option linter.unusedVariables false
set_option linter.unusedSimpArgs false
attribute [local irreducible] VC AW FStep ACall
set_option maxHeartbeats 4000000
theorem filter_two {α : Type} (p : α → Bool) : ∀ l : List α, (l.filter p).length + (l.filter fun x => !p x).length = l.length
  | [] => rfl
  | x :: l => by
    have := filter_two p l
    cases h : p x <;> simp [List.filter_cons, h] <;> omega
theorem ofL_filter {m : Tb} (h : Ok m) (o : Int) : (ofL m o).length = (m.filter fun p => decide (p.2 = o)).length := by
  have h1 : (ofL m o).Perm ((m.filter fun p => decide (p.2 = o)).map (·.1)) := by
    refine (List.perm_ext_iff_of_nodup (nd_sorted (nd_outL h List.nodup_range fun i hi => List.mem_range.1 hi)) (h.nd.sublist (List.Sublist.map _ List.filter_sublist))).2 fun n => ?_
    show n ∈ ofL m o ↔ _
    rw [mem_ofL, List.mem_map]
    constructor
    · intro hm; exact ⟨(n, o), List.mem_filter.2 ⟨hm, by simp⟩, rfl⟩
    · rintro ⟨p, hp, rfl⟩
      obtain ⟨h2, h3⟩ := List.mem_filter.1 hp
      simp at h3
      rw [← h3]; exact h2
  rw [h1.length_eq, List.length_map]
theorem own_drop {m : Tb} (h : Ok m) (o n : Int) : own (dropT m o) n = if n ∈ ofL m o then -1 else own m n := by
  unfold dropT delL
  rw [List.take_length, own_delF h]
theorem ofL_iffO {m : Tb} (h : Ok m) {o n : Int} (ho : 0 ≤ o) : n ∈ ofL m o ↔ own m n = o := by
  rw [mem_ofL, h.mem]
  exact ⟨fun h => h.1, fun h => ⟨h, ho⟩⟩
end Go.Proofs.YtgnnbmgljadokaaDoor
