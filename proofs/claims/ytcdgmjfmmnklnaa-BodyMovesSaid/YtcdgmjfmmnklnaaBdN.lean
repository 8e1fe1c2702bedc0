/-
  BodyMoves: when the slots of a tick clash (plain).
-/
import Derived.Test.YtcdgmjfmmnklnaaBdM
namespace Go.Proofs.Ytcdgmjfmmnklnaa
open Go Go.Ab Go.Fl Go.Shelf Go.Proofs Go.MapKept
set_option linter.unusedVariables false
set_option linter.unusedSimpArgs false
def badC1 (f : Flo) (st : Stt) (acts : List Int) (i : Nat) (to : Int) : Prop := ∃ j, j < i ∧ mvI f st acts j = some to
def badC2 (st : Stt) (i : Nat) (to : Int) : Prop := ∃ (k : Nat) (h : k < st.rb.length), k ≠ i ∧ (st.rb[k]).1 = to
def badC3 (st : Stt) (ld to : Int) : Prop := 0 ≤ ld ∧ ∃ k, k < st.sh.length ∧ carI st.rb (k : Int) < 0 ∧ st.sh.getD k 0 = to
def badC4 (st : Stt) (to : Int) : Prop := ∃ k, k < st.pp.length ∧ st.pp.getD k 0 = to
def ldI (st : Stt) (i : Nat) : Int := (st.rb.getD i (0, 0, 0, 0, 0, false)).2.1
def badI (f : Flo) (st : Stt) (acts : List Int) (i : Nat) (to : Int) : Prop := badC1 f st acts i to ∨ badC2 st i to ∨ badC3 st (ldI st i) to ∨ badC4 st to
def BadP (f : Flo) (st : Stt) (acts : List Int) (n : Nat) : Prop := ∃ i, i < n ∧ ∃ to, mvI f st acts i = some to ∧ badI f st acts i to
theorem mem_atL {x a c : Int} : x ∈ atL a c ↔ x = 2 * c ∨ (0 ≤ a ∧ x = 2 * c + 1) := by
  unfold atL
  split
  · rename_i h; simp [h]
  · rename_i h; simp [h]
theorem mem_robL {st : Stt} {x : Int} : x ∈ robL st st.rb.length ↔ ∃ r, r ∈ st.rb ∧ x ∈ atL r.2.1 r.1 := by
  rw [robL_all, List.mem_flatten]
  simp only [List.mem_map]
  constructor
  · rintro ⟨l, ⟨r, hr, rfl⟩, hx⟩; exact ⟨r, hr, hx⟩
  · rintro ⟨r, hr, hx⟩; exact ⟨_, ⟨r, hr, rfl⟩, hx⟩
theorem mem_shL {st : Stt} {x : Int} {k : Nat} : x ∈ shL st k ↔ ∃ i, i < k ∧ carI st.rb (i : Int) < 0 ∧ x = 2 * st.sh.getD i 0 + 1 := by
  unfold shL
  rw [List.mem_flatten]
  simp only [List.mem_map, List.mem_range]
  constructor
  · rintro ⟨l, ⟨i, hi, rfl⟩, hx⟩
    unfold shL1 at hx
    split at hx
    · simp at hx
    · rename_i hc
      exact ⟨i, hi, by omega, by simpa using hx⟩
  · rintro ⟨i, hi, hc, hx⟩
    refine ⟨_, ⟨i, hi, rfl⟩, ?_⟩
    unfold shL1
    rw [if_neg (by omega), hx]
    simp
theorem mem_ppL {st : Stt} {x : Int} : x ∈ ppL st st.pp.length ↔ ∃ c, c ∈ st.pp ∧ (x = 2 * c ∨ x = 2 * c + 1) := by
  unfold ppL
  rw [List.take_length, List.mem_flatten]
  simp only [List.mem_map]
  constructor
  · rintro ⟨l, ⟨c, hc, rfl⟩, hx⟩; exact ⟨c, hc, by simpa using hx⟩
  · rintro ⟨c, hc, hx⟩; exact ⟨_, ⟨c, hc, rfl⟩, by simpa using hx⟩
theorem mem_mvL {f : Flo} {st : Stt} {acts : List Int} {x : Int} {k : Nat} : x ∈ mvL f st acts k ↔ ∃ i, i < k ∧ ∃ to, mvI f st acts i = some to ∧ x ∈ atL (ldI st i) to := by
  unfold mvL
  rw [List.mem_flatten]
  simp only [List.mem_map, List.mem_range]
  constructor
  · rintro ⟨l, ⟨i, hi, rfl⟩, hx⟩
    unfold mv1 at hx
    split at hx
    · rename_i to e
      exact ⟨i, hi, to, e, hx⟩
    · simp at hx
  · rintro ⟨i, hi, to, e, hx⟩
    refine ⟨_, ⟨i, hi, rfl⟩, ?_⟩
    unfold mv1
    rw [e]
    exact hx
theorem atL_nd (a c : Int) : (atL a c).Nodup := by
  unfold atL
  split
  · simp; omega
  · simp
theorem mvI_ne {f : Flo} (g : Fine f) {st : Stt} {acts : List Int} {i : Nat} {to : Int} (h : mvI f st acts i = some to) : ∃ hi : i < st.rb.length, (st.rb[i]).1 ≠ to := by
  unfold mvI at h
  split at h
  · rename_i r hr
    obtain ⟨hi, rfl⟩ := List.getElem?_eq_some_iff.1 hr
    refine ⟨hi, fun e => ?_⟩
    split at h
    · obtain ⟨_, _, _, hb, _⟩ := next_some g h
      have := (beside_opp g (c := (st.rb[i]).1) (d := acts.getD i 0 - 1) (by rw [hb]; exact (next_some g h).2.2.1.1)).2
      rw [hb] at this
      exact this e.symm
    · cases h
  · cases h
theorem low_in {f : Flo} (g : Fine f) {st : Stt} {acts : List Int} {i : Nat} {to : Int} (h : mvI f st acts i = some to) : 2 * to ∈ allL st ↔ badC2 st i to ∨ badC4 st to := by
  obtain ⟨hi, hne⟩ := mvI_ne g h
  unfold allL
  rw [List.mem_append, List.mem_append, mem_robL, mem_shL, mem_ppL]
  constructor
  · rintro ((⟨r, hr, hx⟩ | ⟨j, hj, hc, hx⟩) | ⟨c, hc, hx⟩)
    · rw [mem_atL] at hx
      obtain ⟨k, hk, rfl⟩ := List.mem_iff_getElem.1 hr
      have e : (st.rb[k]).1 = to := by rcases hx with hx | ⟨_, hx⟩ <;> omega
      exact .inl ⟨k, hk, fun e2 => by subst e2; exact hne e, e⟩
    · omega
    · obtain ⟨k, hk, rfl⟩ := List.mem_iff_getElem.1 hc
      refine .inr ⟨k, hk, ?_⟩
      rw [List.getD_eq_getElem?_getD, List.getElem?_eq_getElem hk]
      show st.pp[k] = to
      rcases hx with hx | hx <;> omega
  · rintro (⟨k, hk, _, e⟩ | ⟨k, hk, e⟩)
    · exact .inl (.inl ⟨_, List.getElem_mem hk, mem_atL.2 (.inl (by rw [e]))⟩)
    · rw [List.getD_eq_getElem?_getD, List.getElem?_eq_getElem hk] at e
      exact .inr ⟨_, List.getElem_mem hk, .inl (by rw [show st.pp[k] = to from e])⟩
theorem high_in {f : Flo} (g : Fine f) {st : Stt} {acts : List Int} {i : Nat} {to : Int} (h : mvI f st acts i = some to) : 2 * to + 1 ∈ allL st → badC2 st i to ∨ (∃ k, k < st.sh.length ∧ carI st.rb (k : Int) < 0 ∧ st.sh.getD k 0 = to) ∨ badC4 st to := by
  obtain ⟨hi, hne⟩ := mvI_ne g h
  unfold allL
  rw [List.mem_append, List.mem_append, mem_robL, mem_shL, mem_ppL]
  rintro ((⟨r, hr, hx⟩ | ⟨j, hj, hc, hx⟩) | ⟨c, hc, hx⟩)
  · rw [mem_atL] at hx
    obtain ⟨k, hk, rfl⟩ := List.mem_iff_getElem.1 hr
    have e : (st.rb[k]).1 = to := by rcases hx with hx | ⟨_, hx⟩ <;> omega
    exact .inl ⟨k, hk, fun e2 => by subst e2; exact hne e, e⟩
  · exact .inr (.inl ⟨j, hj, hc, by omega⟩)
  · obtain ⟨k, hk, rfl⟩ := List.mem_iff_getElem.1 hc
    refine .inr (.inr ⟨k, hk, ?_⟩)
    rw [List.getD_eq_getElem?_getD, List.getElem?_eq_getElem hk]
    show st.pp[k] = to
    rcases hx with hx | hx <;> omega
theorem low_mv {f : Flo} {st : Stt} {acts : List Int} {i : Nat} {to x : Int} (hx : x = 2 * to ∨ x = 2 * to + 1) : x ∈ mvL f st acts i → badC1 f st acts i to := by
  rw [mem_mvL]
  rintro ⟨j, hj, t, e, hm⟩
  rw [mem_atL] at hm
  have : t = to := by rcases hm with hm | ⟨_, hm⟩ <;> rcases hx with hx | hx <;> omega
  subst this
  exact ⟨j, hj, e⟩
theorem nodup_mv {f : Flo} (g : Fine f) {st : Stt} {acts : List Int} (hnd : (allL st).Nodup) : ∀ k, (allL st ++ mvL f st acts k).Nodup ↔ ¬ BadP f st acts k
  | 0 => by
    have : mvL f st acts 0 = [] := rfl
    rw [this, List.append_nil]
    exact ⟨fun _ ⟨i, hi, _⟩ => absurd hi (Nat.not_lt_zero _), fun _ => hnd⟩
  | k + 1 => by
    have ih := nodup_mv g (acts := acts) hnd k
    rw [mvL_next, ← List.append_assoc, List.nodup_append, ih]
    have hB : BadP f st acts (k + 1) ↔ BadP f st acts k ∨ ∃ to, mvI f st acts k = some to ∧ badI f st acts k to := by
      constructor
      · rintro ⟨i, hi, hb⟩
        by_cases e : i = k
        · subst e; exact .inr hb
        · exact .inl ⟨i, by omega, hb⟩
      · rintro (⟨i, hi, hb⟩ | hb)
        · exact ⟨i, by omega, hb⟩
        · exact ⟨k, by omega, hb⟩
    rw [hB, not_or]
    refine and_congr_right fun _ => ?_
    cases hm : mvI f st acts k with
    | none =>
      have e : mv1 f st acts k = [] := by unfold mv1; rw [hm]
      rw [e]
      simp
    | some to =>
      have e : mv1 f st acts k = atL (ldI st k) to := by unfold mv1; rw [hm]; rfl
      rw [e]
      have key : (∀ a, a ∈ allL st ++ mvL f st acts k → ∀ b, b ∈ atL (ldI st k) to → a ≠ b) ↔ ¬ badI f st acts k to := by
        constructor
        · rintro h (⟨j, hj, hjm⟩ | h2 | ⟨h0, q, hq, hc, e2⟩ | h4)
          · exact h (2 * to) (List.mem_append_right _ (mem_mvL.2 ⟨j, hj, to, hjm, mem_atL.2 (.inl rfl)⟩)) (2 * to) (mem_atL.2 (.inl rfl)) rfl
          · exact h (2 * to) (List.mem_append_left _ ((low_in g hm).2 (.inl h2))) (2 * to) (mem_atL.2 (.inl rfl)) rfl
          · refine h (2 * to + 1) (List.mem_append_left _ ?_) (2 * to + 1) (mem_atL.2 (.inr ⟨h0, rfl⟩)) rfl
            unfold allL
            exact List.mem_append_left _ (List.mem_append_right _ (mem_shL.2 ⟨q, hq, hc, by rw [e2]⟩))
          · exact h (2 * to) (List.mem_append_left _ ((low_in g hm).2 (.inr h4))) (2 * to) (mem_atL.2 (.inl rfl)) rfl
        · intro hb a ha b hbm e2
          subst e2
          rw [mem_atL] at hbm
          rcases List.mem_append.1 ha with ha | ha
          · rcases hbm with rfl | ⟨h0, rfl⟩
            · rcases (low_in g hm).1 ha with h | h
              · exact hb (.inr (.inl h))
              · exact hb (.inr (.inr (.inr h)))
            · rcases high_in g hm ha with h | h | h
              · exact hb (.inr (.inl h))
              · exact hb (.inr (.inr (.inl ⟨h0, h⟩)))
              · exact hb (.inr (.inr (.inr h)))
          · exact hb (.inl (low_mv (hbm.imp_right fun h => h.2) ha))
      constructor
      · rintro ⟨_, h⟩ ⟨t, ht, hb⟩
        cases ht
        exact key.1 h hb
      · intro h
        exact ⟨atL_nd _ _, key.2 fun hb => h ⟨to, rfl, hb⟩⟩
end Go.Proofs.Ytcdgmjfmmnklnaa
