/-
  Layer 37, in plain terms: the next permutation.
-/
import Derived.Test.YtgibgknkfcbopaaPm2
namespace Go.Pm
set_option linter.unusedVariables false
set_option linter.unusedSimpArgs false

/-! ### The next permutation -/
theorem rank_desc : ∀ {s : List Nat}, s.Pairwise (· > ·) → rankL s + 1 = fact s.length
  | [], _ => rfl
  | x :: s, h => by
    rw [List.pairwise_cons] at h
    have ih := rank_desc h.2
    have hl : lessN x s = s.length := by
      rw [lessN, List.countP_eq_length]
      intro y hy
      have := h.1 y hy
      simp; omega
    show lessN x s * fact s.length + rankL s + 1 = fact s.length * (s.length + 1)
    rw [hl, Nat.mul_add, Nat.mul_comm s.length]
    omega
theorem rank_up : ∀ {s : List Nat}, s.Pairwise (· < ·) → rankL s = 0
  | [], _ => rfl
  | x :: s, h => by
    rw [List.pairwise_cons] at h
    have hl : lessN x s = 0 := by
      rw [lessN, List.countP_eq_zero]
      intro y hy
      have := h.1 y hy
      simp; omega
    show lessN x s * fact s.length + rankL s = 0
    rw [hl, rank_up h.2, Nat.zero_mul]
theorem rank_pre {l l' : List Nat} (h : l.Perm l') : ∀ pre : List Nat, rankL (pre ++ l) + rankL l' = rankL (pre ++ l') + rankL l
  | [] => Nat.add_comm _ _
  | z :: pre => by
    have ih := rank_pre h pre
    have hp : (pre ++ l).Perm (pre ++ l') := h.append_left pre
    show lessN z (pre ++ l) * fact (pre ++ l).length + rankL (pre ++ l) + rankL l' = lessN z (pre ++ l') * fact (pre ++ l').length + rankL (pre ++ l') + rankL l
    have e1 : lessN z (pre ++ l) = lessN z (pre ++ l') := lessN_perm hp
    have e2 : (pre ++ l).length = (pre ++ l').length := hp.length_eq
    rw [e1, e2]
    omega
theorem swap_perm (x y : Nat) (a b : List Nat) : (x :: (a ++ y :: b)).Perm (y :: (a ++ x :: b)) := by
  have h1 : (x :: (a ++ y :: b)).Perm (x :: y :: (a ++ b)) := List.Perm.cons x List.perm_middle
  have h2 : (y :: (a ++ x :: b)).Perm (y :: x :: (a ++ b)) := List.Perm.cons y List.perm_middle
  exact (h1.trans (List.Perm.swap y x _)).trans h2.symm
theorem next_perm (pre : List Nat) (x y : Nat) (a b : List Nat) : (pre ++ x :: (a ++ y :: b)).Perm (pre ++ y :: (a ++ x :: b).reverse) :=
  ((swap_perm x y a b).trans (List.Perm.cons y (List.reverse_perm _).symm)).append_left pre
theorem next_rank (pre : List Nat) {x y : Nat} {a b : List Nat} (hd : (a ++ y :: b).Pairwise (· > ·)) (hxy : x < y) (hb : ∀ z, z ∈ b → z < x) : rankL (pre ++ y :: (a ++ x :: b).reverse) = rankL (pre ++ x :: (a ++ y :: b)) + 1 := by
  have hperm : (x :: (a ++ y :: b)).Perm (y :: (a ++ x :: b).reverse) := (swap_perm x y a b).trans (List.Perm.cons y (List.reverse_perm _).symm)
  have h1 := rank_pre hperm pre
  have hd2 := List.pairwise_append.1 hd
  have hay : ∀ z, z ∈ a → y < z := fun z hz => hd2.2.2 z hz y (by simp)
  have hup : ((a ++ x :: b).reverse).Pairwise (· < ·) := by
    rw [List.pairwise_reverse, List.pairwise_append]
    refine ⟨hd2.1.imp (fun h => h), ?_, fun u hu v hv => ?_⟩
    · rw [List.pairwise_cons]
      exact ⟨fun z hz => hb z hz, ((List.pairwise_cons.1 hd2.2.1).2).imp (fun h => h)⟩
    · rcases List.mem_cons.1 hv with rfl | hv
      · have := hay u hu; omega
      · have := hay u hu; have := hb v hv; omega
  have hr1 : rankL (y :: (a ++ x :: b).reverse) = lessN y ((a ++ x :: b).reverse) * fact ((a ++ x :: b).reverse).length + 0 := by
    show _ + rankL _ = _
    rw [rank_up hup]
  have hr2 := rank_desc hd
  have hr3 : rankL (x :: (a ++ y :: b)) = lessN x (a ++ y :: b) * fact (a ++ y :: b).length + rankL (a ++ y :: b) := rfl
  have hlen : ((a ++ x :: b).reverse).length = (a ++ y :: b).length := by simp; omega
  have hl : lessN y ((a ++ x :: b).reverse) = lessN x (a ++ y :: b) + 1 := by
    have e1 : lessN y ((a ++ x :: b).reverse) = lessN y (a ++ x :: b) := lessN_perm (List.reverse_perm _)
    have e2 : lessN y (a ++ x :: b) = b.length + 1 := by
      unfold lessN
      rw [List.countP_append, List.countP_cons, if_pos (by simpa using hxy)]
      have c1 : a.countP (fun z => decide (z < y)) = 0 := by
        rw [List.countP_eq_zero]; intro z hz; have := hay z hz; simp; omega
      have c2 : b.countP (fun z => decide (z < y)) = b.length := by
        rw [List.countP_eq_length]; intro z hz; have := hb z hz; simp; omega
      rw [c1, c2]; omega
    have e3 : lessN x (a ++ y :: b) = b.length := by
      unfold lessN
      rw [List.countP_append, List.countP_cons, if_neg (by simp; omega)]
      have c1 : a.countP (fun z => decide (z < x)) = 0 := by
        rw [List.countP_eq_zero]; intro z hz; have := hay z hz; simp; omega
      have c2 : b.countP (fun z => decide (z < x)) = b.length := by
        rw [List.countP_eq_length]; intro z hz; have := hb z hz; simp; omega
      rw [c1, c2]; omega
    rw [e1, e2, e3]
  have hF : (lessN x (a ++ y :: b) + 1) * fact (a ++ y :: b).length = lessN x (a ++ y :: b) * fact (a ++ y :: b).length + fact (a ++ y :: b).length := by rw [Nat.add_mul, Nat.one_mul]
  rw [hl, hlen, hF] at hr1
  omega
/-- The next permutation, or none. -/
def nextM (p : List Nat) : Option (List Nat) := if rankL p + 1 < fact p.length then some (unrank p.length (rankL p + 1)) else none
theorem next_some {p pre : List Nat} {x y : Nat} {a b : List Nat} (r : Rt p) (hp : p = pre ++ x :: (a ++ y :: b)) (hd : (a ++ y :: b).Pairwise (· > ·)) (hxy : x < y) (hb : ∀ z, z ∈ b → z < x) : nextM p = some (pre ++ y :: (a ++ x :: b).reverse) := by
  have hrk := next_rank pre hd hxy hb
  have hpm := next_perm pre x y a b
  rw [← hp] at hrk hpm
  have hrt : (pre ++ y :: (a ++ x :: b).reverse).Perm (List.range p.length) := hpm.symm.trans r.perm
  obtain ⟨h1, h2⟩ := rt_perm hrt
  have h3 := rank_lt (pre ++ y :: (a ++ x :: b).reverse)
  rw [h1, hrk] at h3
  unfold nextM
  rw [if_pos h3]
  have h4 := unrank_rank h2
  rw [h1, hrk] at h4
  rw [h4]
theorem next_none {p : List Nat} (hd : p.Pairwise (· > ·)) : nextM p = none := by
  have := rank_desc hd
  unfold nextM
  rw [if_neg (by omega)]
theorem drop_cons' {p : List Nat} {s : Nat} (h : s < p.length) : p.drop s = at' p s :: p.drop (s + 1) := by
  rw [List.drop_eq_getElem_cons h, at_get h]
theorem desc_at {p : List Nat} {t : Nat} (h : (p.drop t).Pairwise (· > ·)) {i j : Nat} (hi : t ≤ i) (hij : i < j) (hj : j < p.length) : at' p j < at' p i := by
  have := List.pairwise_iff_getElem.1 h (i - t) (j - t) (by simp; omega) (by simp; omega) (by omega)
  rw [List.getElem_drop, List.getElem_drop] at this
  rw [at_get hj, at_get (by omega)]
  have e1 : t + (i - t) = i := by omega
  have e2 : t + (j - t) = j := by omega
  simp only [e1, e2] at this
  exact this
theorem pivot {p : List Nat} (r : Rt p) : ∀ s, s + 1 ≤ p.length → (p.drop s).Pairwise (· > ·) → ∃ t, t ≤ s ∧ (p.drop t).Pairwise (· > ·) ∧ (t = 0 ∨ at' p (t - 1) < at' p t)
  | 0, _, h => ⟨0, Nat.le_refl _, h, .inl rfl⟩
  | s + 1, hs, h => by
    rcases Nat.lt_trichotomy (at' p s) (at' p (s + 1)) with h1 | h1 | h1
    · exact ⟨s + 1, Nat.le_refl _, h, .inr h1⟩
    · have := r.inj (by omega) (by omega) h1; omega
    · have hd : (p.drop s).Pairwise (· > ·) := by
        rw [drop_cons' (by omega), List.pairwise_cons]
        refine ⟨fun z hz => ?_, h⟩
        obtain ⟨j, hj, rfl⟩ := List.mem_iff_getElem.1 hz
        simp at hj
        rw [List.getElem_drop, ← at_get (by omega)]
        cases j with
        | zero => exact h1
        | succ j => have := desc_at h (i := s + 1) (j := s + 1 + (j + 1)) (Nat.le_refl _) (by omega) (by omega); omega
      obtain ⟨t, h2, h3, h4⟩ := pivot r s (by omega) hd
      exact ⟨t, by omega, h3, h4⟩
theorem above {p : List Nat} (r : Rt p) {i : Nat} (h1 : at' p i < at' p (i + 1)) : ∀ s, i < s → s < p.length → (∀ j, s < j → j < p.length → at' p j < at' p i) → ∃ k, i < k ∧ k < p.length ∧ at' p i < at' p k ∧ ∀ j, k < j → j < p.length → at' p j < at' p i
  | 0, h, _, _ => absurd h (Nat.not_lt_zero _)
  | s + 1, h, hs, hj => by
    rcases Nat.lt_trichotomy (at' p i) (at' p (s + 1)) with h2 | h2 | h2
    · exact ⟨s + 1, h, hs, h2, hj⟩
    · have := r.inj (by omega) hs h2; omega
    · have hne : i ≠ s := fun e => by subst e; omega
      refine above r h1 s (by omega) (by omega) fun j h3 h4 => ?_
      by_cases e : j = s + 1
      · subst e; exact h2
      · exact hj j (by omega) h4
/-- The list, split at the pivot and at what is put in its place. -/
theorem next_split {p : List Nat} (r : Rt p) {i k : Nat} (hd : (p.drop (i + 1)).Pairwise (· > ·)) (hik : i < k) (hk : k < p.length) (hx : at' p i < at' p k) (hj : ∀ j, k < j → j < p.length → at' p j < at' p i) :
    ∃ b, nextM p = some ((p.take i ++ [at' p k]) ++ b.reverse) ∧ swp p i k = (p.take i ++ [at' p k]) ++ b ∧ b.length + (i + 1) = p.length := by
  have hs := split_at hik hk
  have h1 : p.drop (i + 1) = (p.drop (i + 1)).take (k - i - 1) ++ at' p k :: p.drop (k + 1) := by
    conv => lhs; rw [← List.take_append_drop (k - i - 1) (p.drop (i + 1)), List.drop_drop, show i + 1 + (k - i - 1) = k by omega, drop_cons' hk]
  refine ⟨(p.drop (i + 1)).take (k - i - 1) ++ at' p i :: p.drop (k + 1), ?_, ?_, ?_⟩
  · have := next_some r (pre := p.take i) (x := at' p i) (y := at' p k) (a := (p.drop (i + 1)).take (k - i - 1)) (b := p.drop (k + 1)) (by rw [List.append_assoc] at hs; exact hs) (by rw [← h1]; exact hd) hx (fun z hz => by
      obtain ⟨j, hj2, rfl⟩ := List.mem_iff_getElem.1 hz
      simp at hj2
      rw [List.getElem_drop, ← at_get (by omega)]
      exact hj _ (by omega) (by omega))
    rw [this]
    simp
  · have hs2 := split_at (l := swp p i k) hik (by rw [swp_len]; exact hk)
    rw [swp_at (by omega) hk, swp_at (by omega) hk, if_neg (by omega), if_pos rfl, if_pos rfl] at hs2
    have t1 : (swp p i k).take i = p.take i := by
      unfold swp
      rw [List.take_set_of_le (by omega), List.take_set_of_le (by omega)]
    have t2 : (swp p i k).drop (k + 1) = p.drop (k + 1) := by
      unfold swp
      rw [List.drop_set_of_lt (by omega), List.drop_set_of_lt (by omega)]
    have t3 : ((swp p i k).drop (i + 1)).take (k - i - 1) = (p.drop (i + 1)).take (k - i - 1) := by
      refine List.ext_getElem (by simp [swp_len]) fun j h1 h2 => ?_
      simp [swp_len] at h1
      simp only [List.getElem_take, List.getElem_drop]
      unfold swp
      rw [List.getElem_set_ne (by omega), List.getElem_set_ne (by omega)]
    rw [hs2, t1, t2, t3]
    simp
  · simp; omega
end Go.Pm
