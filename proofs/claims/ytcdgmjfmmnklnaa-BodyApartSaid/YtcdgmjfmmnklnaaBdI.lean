/-
  Layer 14: what follows of a right state (plain).
-/
import Derived.Test.YtcdgmjfmmnklnaaBdH
namespace Go.Proofs.Ytcdgmjfmmnklnaa
open Go Go.Ab Go.Fl Go.Shelf Go.Proofs Go.MapKept
set_option linter.unusedVariables false
set_option linter.unusedSimpArgs false
theorem sorted_perm (l : List Int) : (sorted l).Perm l := by unfold sorted; exact List.mergeSort_perm _ _
theorem sorted_asc (l : List Int) : (sorted l).Pairwise (· ≤ ·) := by
  unfold sorted
  have h := List.pairwise_mergeSort (le := fun a b : Int => decide (a ≤ b)) (fun a b c h1 h2 => by simp at *; omega) (fun a b => by simp; omega) l
  exact h.imp fun h => by simpa using h
theorem clash_iff (l : List Int) : (clash l).2 = false ↔ l.Nodup := by
  unfold clash
  constructor
  · intro h
    exact (sorted_perm l).nodup_iff.1 (dupF_asc (sorted_asc l) h)
  · intro h
    exact dupF_nd ((sorted_perm l).nodup_iff.2 h)
theorem clash_sorted {l : List Int} (h : (clash l).2 = false) : (clash (sorted l)).2 = false :=
  (clash_iff _).2 ((sorted_perm l).nodup_iff.2 ((clash_iff l).1 h))
theorem robL_all (s : Stt) : robL s s.rb.length = (s.rb.map fun r => atL r.2.1 r.1).flatten := by unfold robL; rw [List.take_length]
theorem len_atL (a c : Int) : (atL a c).length = if 0 ≤ a then 2 else 1 := by unfold atL; split <;> rfl
theorem robL_count : ∀ l : List Rob, ((l.map fun r => atL r.2.1 r.1).flatten).length = l.length + (l.filter fun r => decide (0 ≤ r.2.1)).length
  | [] => rfl
  | r :: l => by
    rw [List.map_cons, List.flatten_cons, List.length_append, robL_count l, len_atL, List.filter_cons]
    by_cases h : 0 ≤ r.2.1
    · simp [h]; omega
    · simp [h]; omega
theorem shL_count (s : Stt) : ∀ k, (shL s k).length + ((List.range k).filter fun (i : Nat) => decide (0 ≤ carI s.rb (i : Int))).length = k
  | 0 => rfl
  | k + 1 => by
    have ih := shL_count s k
    rw [shL_next, List.length_append, List.range_succ, List.filter_append, List.length_append]
    unfold shL1
    by_cases h : 0 ≤ carI s.rb (k : Int)
    · simp [h]; omega
    · simp [h]; omega
theorem carI_iff {l : List Rob} {o : Int} (h0 : 0 ≤ o) : 0 ≤ carI l o ↔ ∃ r, r ∈ l ∧ r.2.1 = o := by
  unfold carI
  rw [if_neg (by omega)]
  exact (carF_ge l o 0 (Int.le_refl _)).2.2
theorem loads_nd {f : Flo} {sh : List Int} : ∀ {l : List Rob}, RobOk f sh l → ((l.filter fun r => decide (0 ≤ r.2.1)).map (·.2.1)).Nodup := by
  intro l h
  have key : ∀ k, k ≤ l.length → (((l.take k).filter fun r => decide (0 ≤ r.2.1)).map (·.2.1)).Nodup := by
    intro k
    induction k with
    | zero => intro _; simp
    | succ k ih =>
      intro hk
      have hlt : k < l.length := by omega
      rw [List.take_succ_eq_append_getElem hlt, List.filter_append, List.map_append, List.nodup_append]
      refine ⟨ih (by omega), ?_, ?_⟩
      · by_cases h0 : 0 ≤ (l[k]).2.1
        · simp [h0]
        · simp [h0]
      · intro a ha b hb e
        by_cases h0 : 0 ≤ (l[k]).2.1
        · have hb' : b = (l[k]).2.1 := by simpa [h0] using hb
          have := ((h k hlt).ld h0).1
          refine this ?_
          obtain ⟨r, hr, hre⟩ := List.mem_map.1 ha
          unfold loadsF
          rw [← hb', ← e]
          exact List.mem_map.2 ⟨r, (List.mem_filter.1 hr).1, hre⟩
        · simp [h0] at hb
  have := key l.length (Nat.le_refl _)
  rwa [List.take_length] at this
theorem carried_count {f : Flo} {st : Stt} (h : RobOk f st.sh st.rb) : (st.rb.filter fun r => decide (0 ≤ r.2.1)).length = ((List.range st.sh.length).filter fun (i : Nat) => decide (0 ≤ carI st.rb (i : Int))).length := by
  have h1 : ((st.rb.filter fun r => decide (0 ≤ r.2.1)).map (·.2.1)).Perm (((List.range st.sh.length).filter fun (i : Nat) => decide (0 ≤ carI st.rb (i : Int))).map fun (i : Nat) => (i : Int)) := by
    rw [List.perm_ext_iff_of_nodup (loads_nd h) ?_]
    · intro a
      constructor
      · intro ha
        obtain ⟨r, hr, rfl⟩ := List.mem_map.1 ha
        obtain ⟨hr1, hr2⟩ := List.mem_filter.1 hr
        have hr2 : 0 ≤ r.2.1 := by simpa using hr2
        obtain ⟨k, hk, rfl⟩ := List.mem_iff_getElem.1 hr1
        have hl := withinB_t.1 (h k hk).l
        refine List.mem_map.2 ⟨((st.rb[k]).2.1).toNat, List.mem_filter.2 ⟨List.mem_range.2 (by omega), ?_⟩, by omega⟩
        have e : (((st.rb[k]).2.1).toNat : Int) = (st.rb[k]).2.1 := by omega
        rw [e]
        simpa using (carI_iff hr2).2 ⟨_, hr1, rfl⟩
      · intro ha
        obtain ⟨i, hi, rfl⟩ := List.mem_map.1 ha
        obtain ⟨hi1, hi2⟩ := List.mem_filter.1 hi
        obtain ⟨r, hr, hre⟩ := (carI_iff (Int.natCast_nonneg i)).1 (by simpa using hi2)
        exact List.mem_map.2 ⟨r, List.mem_filter.2 ⟨hr, by rw [hre]; simp⟩, hre⟩
    · exact (List.Pairwise.filter _ List.nodup_range).map _ (fun a b hab e => hab (by exact_mod_cast e))
  have := h1.length_eq
  simpa using this
theorem allL_count {f : Flo} {st : Stt} (h : RobOk f st.sh st.rb) : (allL st).length = st.rb.length + st.sh.length + 2 * st.pp.length := by
  unfold allL
  rw [List.length_append, List.length_append, robL_all, robL_count, ppL_len st _ (Nat.le_refl _), carried_count h]
  have := shL_count st st.sh.length
  omega
theorem carI_own {f : Flo} {st : Stt} (h : RobOk f st.sh st.rb) {k : Nat} (hk : k < st.rb.length) (h0 : 0 ≤ (st.rb[k]).2.1) : carI st.rb (st.rb[k]).2.1 = k := by
  unfold carI
  rw [if_neg (by omega)]
  have key : ∀ j, j ≤ k → carF st.rb (st.rb[k]).2.1 0 = carF (st.rb.drop j) (st.rb[k]).2.1 j := by
    intro j
    induction j with
    | zero => intro _; simp
    | succ j ih =>
      intro hj
      rw [ih (by omega), carF_drop (by omega), if_neg]
      intro e
      have := ((h k hk).ld h0).1
      refine this ?_
      unfold loadsF
      rw [← e]
      refine List.mem_map.2 ⟨st.rb[j], ?_, rfl⟩
      rw [List.mem_iff_getElem]
      exact ⟨j, by simp; omega, by simp⟩
  rw [key k (Nat.le_refl _), carF_drop hk, if_pos rfl]
end Go.Proofs.Ytcdgmjfmmnklnaa
