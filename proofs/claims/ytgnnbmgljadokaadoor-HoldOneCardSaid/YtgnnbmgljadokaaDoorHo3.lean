/-
  Layer 17: tables as lists of pairs (plain).
-/
import Derived.Test.YtgnnbmgljadokaaDoorHo2
namespace Go.Ho
open Go Go.Ab
set_option linter.unusedVariables false
set_option linter.unusedSimpArgs false

/-- Slots with their owners. -/
abbrev Tb := List (Int × Int)
def kk (m : Tb) : List Int := m.map (·.1)
def own (m : Tb) (n : Int) : Int := match m.find? (fun p => p.1 == n) with
  | some p => p.2
  | none => -1
structure Ok (m : Tb) : Prop where
  nd : (kk m).Nodup
  rng : ∀ p, p ∈ m → (0 ≤ p.1 ∧ p.1 < 8192) ∧ 0 ≤ p.2 ∧ p.2 ≤ 9223372036854775807
theorem Ok.nil : Ok [] := ⟨by simp [kk], fun p hp => by cases hp⟩
theorem mem_kk {m : Tb} {n : Int} : n ∈ kk m ↔ ∃ o, (n, o) ∈ m := by simp [kk]
theorem own_of {m : Tb} (h : (kk m).Nodup) {n o : Int} (hm : (n, o) ∈ m) : own m n = o := by
  induction m with
  | nil => cases hm
  | cons p m ih =>
    simp only [kk, List.map_cons, List.nodup_cons] at h
    unfold own
    rw [List.find?_cons]
    by_cases hp : p.1 = n
    · simp only [hp, beq_self_eq_true]
      rcases List.mem_cons.1 hm with e | e
      · rw [← e]
      · exact absurd (List.mem_map.2 ⟨(n, o), e, rfl⟩) (by rw [← hp] at *; exact h.1)
    · have : (p.1 == n) = false := by simpa using hp
      rw [this]
      rcases List.mem_cons.1 hm with e | e
      · exact absurd (by rw [← e]) hp
      · exact ih h.2 e
theorem own_not {m : Tb} {n : Int} (h : n ∉ kk m) : own m n = -1 := by
  unfold own
  rw [List.find?_eq_none.2 (fun p hp => by simpa using fun e => h (List.mem_map.2 ⟨p, hp, e⟩))]
theorem Ok.mem {m : Tb} (h : Ok m) {n o : Int} : (n, o) ∈ m ↔ own m n = o ∧ 0 ≤ o := by
  constructor
  · intro hm; exact ⟨own_of h.nd hm, (h.rng _ hm).2.1⟩
  · rintro ⟨h1, h2⟩
    by_cases hk : n ∈ kk m
    · obtain ⟨o', ho⟩ := mem_kk.1 hk
      rw [own_of h.nd ho] at h1; rw [← h1]; exact ho
    · rw [own_not hk] at h1; omega
theorem Ok.iff {m : Tb} (h : Ok m) {n : Int} : n ∈ kk m ↔ 0 ≤ own m n := by
  rw [mem_kk]
  constructor
  · rintro ⟨o, ho⟩; rw [own_of h.nd ho]; exact (h.rng _ ho).2.1
  · intro h1; exact ⟨_, h.mem.2 ⟨rfl, h1⟩⟩
theorem Ok.ge {m : Tb} (h : Ok m) (n : Int) : -1 ≤ own m n ∧ own m n ≤ 9223372036854775807 := by
  by_cases hk : n ∈ Ho.kk m
  · obtain ⟨o, ho⟩ := mem_kk.1 hk
    rw [own_of h.nd ho]
    have := h.rng _ ho
    exact ⟨by have := this.2.1; omega, this.2.2⟩
  · rw [own_not hk]; omega
theorem Ok.slot {m : Tb} (h : Ok m) {n : Int} (hk : 0 ≤ own m n) : 0 ≤ n ∧ n < 8192 := by
  obtain ⟨o, ho⟩ := mem_kk.1 (h.iff.2 hk)
  exact (h.rng _ ho).1
theorem Ok.nodup {m : Tb} (h : Ok m) : m.Nodup := List.Pairwise.of_map (·.1) (fun a b hab e => hab (by rw [e])) h.nd
theorem perm_of_own {m m' : Tb} (h : Ok m) (h' : Ok m') (e : ∀ n, own m n = own m' n) : m.Perm m' :=
  (List.perm_ext_iff_of_nodup h.nodup h'.nodup).2 fun ⟨n, o⟩ => by rw [h.mem, h'.mem, e]
theorem Ok.len {m : Tb} (h : Ok m) : m.length ≤ 8192 := by
  have h1 : (kk m).length ≤ ((List.range 8192).map fun i : Nat => (i : Int)).length := h.nd.length_le_of_subset fun n hn => by
    obtain ⟨o, ho⟩ := mem_kk.1 hn
    have := (h.rng _ ho).1
    exact List.mem_map.2 ⟨n.toNat, List.mem_range.2 (by simp only at this; omega), by simp only at this ⊢; omega⟩
  simpa [kk] using h1

/-- A slot gets an owner. -/
def put (m : Tb) (n o : Int) : Tb := if n ∈ kk m then m.map fun p => if p.1 = n then (n, o) else p else m ++ [(n, o)]
def del (m : Tb) (n : Int) : Tb := m.filter fun p => decide (p.1 ≠ n)
theorem kk_put {m : Tb} {n o : Int} : kk (put m n o) = if n ∈ kk m then kk m else kk m ++ [n] := by
  unfold put
  split
  · unfold kk
    rw [List.map_map]
    refine List.map_congr_left fun p _ => ?_
    simp only [Function.comp]
    split
    · rename_i e; exact e.symm
    · rfl
  · simp [kk]
theorem Ok.put {m : Tb} (h : Ok m) {n o : Int} (hn : 0 ≤ n ∧ n < 8192) (ho : 0 ≤ o ∧ o ≤ 9223372036854775807) : Ok (put m n o) := by
  refine ⟨?_, fun p hp => ?_⟩
  · rw [kk_put]
    split
    · exact h.nd
    · rename_i hk
      rw [List.nodup_append]
      exact ⟨h.nd, by simp, fun x hx y hy e => hk (by simp at hy; rw [← hy, ← e]; exact hx)⟩
  · unfold Ho.put at hp
    split at hp
    · obtain ⟨q, hq, rfl⟩ := List.mem_map.1 hp
      split
      · exact ⟨hn, ho⟩
      · exact h.rng q hq
    · rcases List.mem_append.1 hp with hp | hp
      · exact h.rng p hp
      · simp at hp; subst hp; exact ⟨hn, ho⟩
theorem own_put {m : Tb} {n o : Int} (k : Int) : own (put m n o) k = if k = n then o else own m k := by
  unfold put
  split
  · rename_i hk
    unfold own
    rw [List.find?_map]
    have e : ((fun p : Int × Int => p.1 == k) ∘ fun p => if p.1 = n then (n, o) else p) = fun p => p.1 == k := by
      funext p
      simp only [Function.comp]
      split
      · rename_i e; rw [e]
      · rfl
    rw [e]
    by_cases hkn : k = n
    · subst hkn
      rw [if_pos rfl]
      obtain ⟨o', ho⟩ := mem_kk.1 hk
      cases hf : m.find? (fun p => p.1 == k) with
      | none => rw [List.find?_eq_none] at hf; exact absurd (by simp) (hf _ ho)
      | some p =>
        have := List.find?_some hf
        simp at this
        simp [this]
    · rw [if_neg hkn]
      cases hf : m.find? (fun p => p.1 == k) with
      | none => rfl
      | some p =>
        have := List.find?_some hf
        simp at this
        simp only [Option.map_some]
        rw [if_neg (by rw [this]; exact hkn)]
  · rename_i hk
    unfold own
    rw [List.find?_append]
    by_cases hkn : k = n
    · subst hkn
      rw [if_pos rfl, List.find?_eq_none.2 (fun p hp => by simpa using fun e => hk (List.mem_map.2 ⟨p, hp, e⟩))]
      simp
    · rw [if_neg hkn]
      cases hf : m.find? (fun p => p.1 == k) with
      | none => simp [Ne.symm hkn]
      | some p => rfl
theorem Ok.del {m : Tb} (h : Ok m) (n : Int) : Ok (del m n) :=
  ⟨h.nd.sublist (List.Sublist.map _ List.filter_sublist), fun p hp => h.rng p (List.mem_filter.1 hp).1⟩
theorem own_del {m : Tb} (h : (kk m).Nodup) {n : Int} (k : Int) : own (del m n) k = if k = n then -1 else own m k := by
  have hnd : (kk (del m n)).Nodup := h.sublist (List.Sublist.map _ List.filter_sublist)
  by_cases hkn : k = n
  · subst hkn
    rw [if_pos rfl]
    exact own_not fun hk => by
      obtain ⟨o, ho⟩ := mem_kk.1 hk
      have := (List.mem_filter.1 ho).2
      simp at this
  · rw [if_neg hkn]
    by_cases hk : k ∈ kk m
    · obtain ⟨o, ho⟩ := mem_kk.1 hk
      rw [own_of h ho, own_of hnd (List.mem_filter.2 ⟨ho, by simpa using hkn⟩)]
    · rw [own_not hk, own_not fun hk' => ?_]
      obtain ⟨o, ho⟩ := mem_kk.1 hk'
      exact hk (mem_kk.2 ⟨o, (List.mem_filter.1 ho).1⟩)
/-- What stands at a key's place. -/
theorem at_key {m : Tb} {n : Int} (h : n ∈ kk m) : ∃ i, (kk m)[i]? = some n ∧ i < m.length := by
  obtain ⟨i, hi⟩ := List.mem_iff_getElem?.1 h
  have := (List.getElem?_eq_some_iff.1 hi).1
  exact ⟨i, hi, by simpa [kk] using this⟩
theorem at_val {m : Tb} (h : (kk m).Nodup) {n : Int} {i : Nat} (hi : (kk m)[i]? = some n) : (m.map (·.2))[i]? = some (own m n) ∧ m[i]? = some (n, own m n) := by
  simp only [kk, List.getElem?_map, Option.map_eq_some_iff] at hi
  obtain ⟨p, hp, he⟩ := hi
  have hm : (n, p.2) ∈ m := by rw [← he]; exact List.mem_of_getElem? hp
  have := own_of h hm
  refine ⟨by simp [hp, this], ?_⟩
  rw [hp, this, ← he]
theorem put_at {m : Tb} (h : (kk m).Nodup) {n o : Int} {i : Nat} (hi : (kk m)[i]? = some n) : (put m n o).map (·.2) = (m.map (·.2)).set i o := by
  have hk : n ∈ kk m := List.mem_of_getElem? hi
  unfold put
  rw [if_pos hk]
  apply List.ext_getElem?
  intro j
  rw [List.getElem?_map, List.getElem?_map, List.getElem?_set, List.getElem?_map]
  have hil : i < m.length := by have := (List.getElem?_eq_some_iff.1 hi).1; simpa [kk] using this
  by_cases hij : i = j
  · subst hij
    rw [if_pos rfl, if_pos (by simpa using hil)]
    obtain ⟨_, h2⟩ := at_val h hi
    rw [h2]; simp
  · rw [if_neg hij]
    cases hj : m[j]? with
    | none => rfl
    | some p =>
      have hpn : p.1 ≠ n := fun e => hij ((List.getElem?_inj (by simpa [kk] using hil) h).1 (by rw [hi]; simp [kk, hj, e]))
      simp [hpn]
theorem del_at {m : Tb} (h : (kk m).Nodup) {n : Int} {i : Nat} (hi : (kk m)[i]? = some n) : del m n = m.eraseIdx i := by
  induction m generalizing i with
  | nil => simp [kk] at hi
  | cons p m ih =>
    simp only [kk, List.map_cons, List.nodup_cons] at h
    cases i with
    | zero =>
      simp only [kk, List.map_cons, List.getElem?_cons_zero, Option.some.injEq] at hi
      unfold del
      rw [List.filter_cons, hi]
      simp only [ne_eq, not_true, decide_false, Bool.false_eq_true, if_false, List.eraseIdx_cons_zero]
      rw [List.filter_eq_self]
      intro q hq
      simp only [decide_not, Bool.not_eq_true', decide_eq_false_iff_not]
      intro e
      exact h.1 (by rw [hi, ← e]; exact List.mem_map.2 ⟨q, hq, rfl⟩)
    | succ i =>
      simp only [kk, List.map_cons, List.getElem?_cons_succ] at hi
      have hne : p.1 ≠ n := fun e => h.1 (by rw [e]; exact List.mem_of_getElem? hi)
      unfold del
      rw [List.filter_cons]
      simp only [hne, ne_eq, not_false_eq_true, decide_true, if_true, List.eraseIdx_cons_succ]
      congr 1
      exact ih h.2 hi
theorem del_not {m : Tb} {n : Int} (h : n ∉ kk m) : del m n = m := by
  unfold del
  rw [List.filter_eq_self]
  intro q hq
  simp only [decide_not, Bool.not_eq_true', decide_eq_false_iff_not]
  exact fun e => h (List.mem_map.2 ⟨q, hq, e⟩)
theorem kk_nil_own (n : Int) : own [] n = -1 := rfl
end Go.Ho
