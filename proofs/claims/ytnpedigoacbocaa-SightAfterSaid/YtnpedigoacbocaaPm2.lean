/-
  Layer 37, in plain terms: ranks.
-/
import Derived.Test.YtnpedigoacbocaaPm1
namespace Go.Pm
set_option linter.unusedVariables false
set_option linter.unusedSimpArgs false

/-! ### Ranks -/
def fact : Nat → Nat
  | 0 => 1
  | n + 1 => fact n * (n + 1)
theorem fact_pos : ∀ n, 0 < fact n
  | 0 => Nat.one_pos
  | n + 1 => Nat.mul_pos (fact_pos n) (Nat.succ_pos n)
theorem fact_mono {m n : Nat} (h : m ≤ n) : fact m ≤ fact n := by
  induction h with
  | refl => exact Nat.le_refl _
  | step _ ih => exact Nat.le_trans ih (Nat.le_mul_of_pos_right _ (Nat.succ_pos _))
theorem fact_20 {n : Nat} (h : n ≤ 20) : fact n ≤ 2432902008176640000 := Nat.le_trans (fact_mono h) (by decide)
def rankL : List Nat → Nat
  | [] => 0
  | x :: l => lessN x l * fact l.length + rankL l
theorem lessN_le (x : Nat) (l : List Nat) : lessN x l ≤ l.length := List.countP_le_length
theorem rank_lt : ∀ l : List Nat, rankL l < fact l.length
  | [] => Nat.one_pos
  | x :: l => by
    have ih := rank_lt l
    have h := Nat.mul_le_mul_right (fact l.length) (lessN_le x l)
    show lessN x l * fact l.length + rankL l < fact l.length * (l.length + 1)
    rw [Nat.mul_add, Nat.mul_one, Nat.mul_comm (fact l.length) l.length]
    omega
/-- The program's way: the number after the first i places. -/
def rk (p : List Nat) : Nat → Nat
  | 0 => 0
  | i + 1 => rk p i * (p.length - i) + lessN (at' p i) (p.drop (i + 1))
theorem rk_inv (p : List Nat) : ∀ i, i ≤ p.length → rk p i * fact (p.length - i) + rankL (p.drop i) = rankL p
  | 0, _ => by simp [rk]
  | i + 1, hi => by
    have ih := rk_inv p i (by omega)
    rw [← ih, List.drop_eq_getElem_cons (by omega : i < p.length)]
    obtain ⟨m, hm⟩ : ∃ m, p.length - i = m + 1 := ⟨p.length - i - 1, by omega⟩
    have hm2 : p.length - (i + 1) = m := by omega
    have hd : (p.drop (i + 1)).length = m := by rw [List.length_drop]; omega
    show (rk p i * (p.length - i) + lessN (at' p i) (p.drop (i + 1))) * fact (p.length - (i + 1)) + rankL (p.drop (i + 1)) = rk p i * fact (p.length - i) + (lessN p[i] (p.drop (i + 1)) * fact (p.drop (i + 1)).length + rankL (p.drop (i + 1)))
    rw [hm, hm2, hd, at_get (by omega)]
    show _ = _ * (fact m * (m + 1)) + _
    rw [Nat.add_mul, Nat.mul_assoc, Nat.mul_comm (m + 1) (fact m), Nat.add_assoc]
theorem rk_all (p : List Nat) : rk p p.length = rankL p := by
  have := rk_inv p p.length (Nat.le_refl _)
  simpa [fact, rankL] using this
theorem rk_le (p : List Nat) {i : Nat} (hi : i ≤ p.length) : rk p i ≤ rankL p := by
  have h1 := rk_inv p i hi
  have := Nat.le_mul_of_pos_right (rk p i) (fact_pos (p.length - i))
  omega
/-- The reference's way. -/
def rkR (p : List Nat) : Nat → Nat
  | 0 => 0
  | i + 1 => rkR p i + lessN (at' p i) (p.drop (i + 1)) * fact (p.length - 1 - i)
theorem rkR_inv (p : List Nat) : ∀ i, i ≤ p.length → rkR p i + rankL (p.drop i) = rankL p
  | 0, _ => by simp [rkR]
  | i + 1, hi => by
    have ih := rkR_inv p i (by omega)
    rw [← ih, List.drop_eq_getElem_cons (by omega : i < p.length)]
    have hd : (p.drop (i + 1)).length = p.length - 1 - i := by rw [List.length_drop]; omega
    show rkR p i + lessN (at' p i) (p.drop (i + 1)) * fact (p.length - 1 - i) + rankL (p.drop (i + 1)) = rkR p i + (lessN p[i] (p.drop (i + 1)) * fact (p.drop (i + 1)).length + rankL (p.drop (i + 1)))
    rw [hd, at_get (by omega)]
    omega
theorem rkR_all (p : List Nat) : rkR p p.length = rankL p := by
  have := rkR_inv p p.length (Nat.le_refl _)
  simpa [rankL] using this
theorem rkR_le (p : List Nat) {i : Nat} (hi : i ≤ p.length) : rkR p i ≤ rankL p := by
  have := rkR_inv p i hi; omega

def unr : Nat → List Nat → Nat → List Nat
  | 0, _, _ => []
  | m + 1, left, k => at' left (k / fact m) :: unr m (left.eraseIdx (k / fact m)) (k % fact m)
abbrev Up (l : List Nat) : Prop := l.Pairwise (· < ·)
theorem up_less {l : List Nat} (h : Up l) : ∀ {i : Nat}, i < l.length → lessN (at' l i) l = i := by
  induction l with
  | nil => intro i hi; simp at hi
  | cons x l ih =>
    rw [Up, List.pairwise_cons] at h
    intro i hi
    rw [lessN_cons]
    cases i with
    | zero =>
      have : lessN x l = 0 := by
        rw [lessN, List.countP_eq_zero]
        intro y hy
        have := h.1 y hy
        simp; omega
      show lessN x l + (if x < x then 1 else 0) = 0
      rw [this, if_neg (Nat.lt_irrefl _)]
    | succ i =>
      have hi' : i < l.length := by simpa using hi
      show lessN (at' l i) l + (if x < at' l i then 1 else 0) = i + 1
      rw [ih h.2 hi', if_pos (h.1 _ (by rw [at_get hi']; exact List.getElem_mem _))]
theorem up_nodup {l : List Nat} (h : Up l) : l.Nodup := List.Pairwise.imp (fun h => by omega) h
theorem erase_perm' {l : List Nat} {i : Nat} (h : i < l.length) : l.Perm (at' l i :: l.eraseIdx i) := by
  rw [at_get h, List.eraseIdx_eq_take_drop_succ]
  conv => lhs; rw [← List.take_append_drop i l, List.drop_eq_getElem_cons h]
  exact List.perm_middle
theorem up_erase {l : List Nat} (h : Up l) (i : Nat) : Up (l.eraseIdx i) := h.sublist (List.eraseIdx_sublist l i)
theorem unr_rank : ∀ (l left : List Nat), Up left → l.Perm left → unr l.length left (rankL l) = l
  | [], _, _, _ => rfl
  | x :: l, left, hu, hp => by
    have hx : x ∈ left := hp.mem_iff.1 (by simp)
    obtain ⟨i, hi, e⟩ := List.mem_iff_getElem.1 hx
    rw [← at_get hi] at e
    have hless : lessN x l = i := by
      have h1 : lessN x (x :: l) = lessN x left := lessN_perm hp
      rw [lessN_cons, if_neg (Nat.lt_irrefl _), ← e, up_less hu hi, e] at h1
      exact h1
    have hq : (lessN x l * fact l.length + rankL l) / fact l.length = i := by
      rw [Nat.mul_comm, Nat.mul_add_div (fact_pos _), Nat.div_eq_of_lt (rank_lt l), hless]; omega
    have hr : (lessN x l * fact l.length + rankL l) % fact l.length = rankL l := by
      rw [Nat.mul_comm, Nat.mul_add_mod, Nat.mod_eq_of_lt (rank_lt l)]
    show at' left ((lessN x l * fact l.length + rankL l) / fact l.length) :: unr l.length (left.eraseIdx ((lessN x l * fact l.length + rankL l) / fact l.length)) ((lessN x l * fact l.length + rankL l) % fact l.length) = _
    rw [hq, hr, e]
    have hp2 : l.Perm (left.eraseIdx i) := by
      have h2 := hp.trans (erase_perm' hi)
      rw [e] at h2
      exact h2.cons_inv
    rw [unr_rank l _ (up_erase hu i) hp2]
theorem rank_unr : ∀ (m : Nat) (left : List Nat) (k : Nat), left.length = m → Up left → k < fact m → (unr m left k).Perm left ∧ rankL (unr m left k) = k
  | 0, left, k, hl, _, hk => by
    have : left = [] := List.length_eq_zero_iff.1 hl
    subst this
    have : k = 0 := by have : fact 0 = 1 := rfl; omega
    subst this
    exact ⟨List.Perm.refl _, rfl⟩
  | m + 1, left, k, hl, hu, hk => by
    have hi : k / fact m < m + 1 := by
      rw [Nat.div_lt_iff_lt_mul (fact_pos m), Nat.mul_comm]; exact hk
    have hi2 : k / fact m < left.length := by omega
    obtain ⟨h1, h2⟩ := rank_unr m (left.eraseIdx (k / fact m)) (k % fact m) (by rw [List.length_eraseIdx_of_lt hi2]; omega) (up_erase hu _) (Nat.mod_lt _ (fact_pos m))
    have hp : (unr (m + 1) left k).Perm left := (List.Perm.cons _ h1).trans (erase_perm' hi2).symm
    refine ⟨hp, ?_⟩
    show lessN (at' left (k / fact m)) (unr m (left.eraseIdx (k / fact m)) (k % fact m)) * fact (unr m _ _).length + rankL (unr m _ _) = k
    have hless : lessN (at' left (k / fact m)) (unr m (left.eraseIdx (k / fact m)) (k % fact m)) = k / fact m := by
      have h3 : lessN (at' left (k / fact m)) (unr (m + 1) left k) = lessN (at' left (k / fact m)) left := lessN_perm hp
      rw [up_less hu hi2] at h3
      unfold unr at h3
      rw [lessN_cons, if_neg (Nat.lt_irrefl _)] at h3
      exact h3
    have hlen : (unr m (left.eraseIdx (k / fact m)) (k % fact m)).length = m := by
      rw [h1.length_eq, List.length_eraseIdx_of_lt hi2]; omega
    rw [hless, hlen, h2, Nat.mul_comm]
    exact Nat.div_add_mod k (fact m)
theorem up_range (n : Nat) : Up (List.range n) := List.pairwise_lt_range
theorem Rt.perm {p : List Nat} (r : Rt p) : p.Perm (List.range p.length) :=
  (List.perm_ext_iff_of_nodup r.nd List.nodup_range).2 fun x => by rw [List.mem_range]; exact ⟨r.lt x, r.mem⟩
theorem rt_perm {p : List Nat} {n : Nat} (h : p.Perm (List.range n)) : p.length = n ∧ Rt p := by
  have hl : p.length = n := by rw [h.length_eq, List.length_range]
  exact ⟨hl, h.nodup_iff.2 List.nodup_range, fun x hx => by rw [hl]; exact List.mem_range.1 (h.mem_iff.1 hx)⟩
def unrank (n k : Nat) : List Nat := unr n (List.range n) k
theorem unrank_rank {p : List Nat} (r : Rt p) : unrank p.length (rankL p) = p := unr_rank p _ (up_range _) r.perm
theorem unrank_ok {n k : Nat} (h : k < fact n) : (unrank n k).length = n ∧ Rt (unrank n k) ∧ rankL (unrank n k) = k := by
  obtain ⟨h1, h2⟩ := rank_unr n (List.range n) k (by simp) (up_range n) h
  exact ⟨(rt_perm h1).1, (rt_perm h1).2, h2⟩
theorem rank_inj {p q : List Nat} (hp : Rt p) (hq : Rt q) (hl : p.length = q.length) (h : rankL p = rankL q) : p = q := by
  rw [← unrank_rank hp, ← unrank_rank hq, h, hl]
/-- The first places that differ decide. -/
theorem rank_less : ∀ (a : List Nat) {x y : Nat} {l m : List Nat}, (a ++ x :: l).Perm (a ++ y :: m) → x < y → rankL (a ++ x :: l) < rankL (a ++ y :: m)
  | [], x, y, l, m, hp, h => by
    have hl : l.length = m.length := by simpa using hp.length_eq
    have h1 := rank_lt l
    have h2 : lessN x l < lessN y m := by
      have h3 : lessN y (x :: l) = lessN y (y :: m) := lessN_perm hp
      rw [lessN_cons, lessN_cons, if_pos h, if_neg (Nat.lt_irrefl _)] at h3
      have h4 : lessN x l ≤ lessN y l := List.countP_mono_left (fun z _ hz => by simp at hz ⊢; omega)
      omega
    show lessN x l * fact l.length + rankL l < lessN y m * fact m.length + rankL m
    rw [← hl]
    have := Nat.mul_le_mul_right (fact l.length) (Nat.succ_le_of_lt h2)
    rw [Nat.succ_mul] at this
    omega
  | z :: a, x, y, l, m, hp, h => by
    have hp2 := hp.cons_inv
    have ih := rank_less a hp2 h
    show lessN z (a ++ x :: l) * fact (a ++ x :: l).length + rankL (a ++ x :: l) < lessN z (a ++ y :: m) * fact (a ++ y :: m).length + rankL (a ++ y :: m)
    have e1 : lessN z (a ++ x :: l) = lessN z (a ++ y :: m) := lessN_perm hp2
    have e2 : (a ++ x :: l).length = (a ++ y :: m).length := hp2.length_eq
    rw [e1, e2]
    omega
theorem rank_order {p q : List Nat} (hp : Rt p) (hq : Rt q) (hl : p.length = q.length) {i : Nat} (hi : i < p.length) (ht : p.take i = q.take i) (hne : at' p i ≠ at' q i) : rankL p < rankL q ↔ at' p i < at' q i := by
  have hperm : p.Perm q := by
    have := hq.perm; rw [← hl] at this; exact hp.perm.trans this.symm
  have e1 : p = q.take i ++ at' p i :: p.drop (i + 1) := by
    conv => lhs; rw [← List.take_append_drop i p, List.drop_eq_getElem_cons hi, ht, ← at_get hi]
  have e2 : q = q.take i ++ at' q i :: q.drop (i + 1) := by
    conv => lhs; rw [← List.take_append_drop i q, List.drop_eq_getElem_cons (by omega), ← at_get (by omega)]
  have h12 : (q.take i ++ at' p i :: p.drop (i + 1)).Perm (q.take i ++ at' q i :: q.drop (i + 1)) := by rw [← e1, ← e2]; exact hperm
  constructor
  · intro h
    apply Classical.byContradiction
    intro hn
    have := rank_less _ h12.symm (by omega : at' q i < at' p i)
    rw [← e1, ← e2] at this
    omega
  · intro h
    have := rank_less _ h12 h
    rwa [← e1, ← e2] at this
end Go.Pm
