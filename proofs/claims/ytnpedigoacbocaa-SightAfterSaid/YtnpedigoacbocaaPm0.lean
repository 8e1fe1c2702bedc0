/-
  Layer 37, in plain terms: permutations, composition, swaps, parity.
-/
import Derived.WalkKit
namespace Go.Pm
set_option linter.unusedVariables false
set_option linter.unusedSimpArgs false

/-- A permutation of the numbers below its length. -/
structure Rt (p : List Nat) : Prop where
  nd : p.Nodup
  lt : ∀ x, x ∈ p → x < p.length
abbrev at' (p : List Nat) (i : Nat) : Nat := p.getD i 0
theorem at_get {p : List Nat} {i : Nat} (h : i < p.length) : at' p i = p[i] := by
  rw [at', List.getD_eq_getElem?_getD, List.getElem?_eq_getElem h]; rfl
theorem Rt.ltAt {p : List Nat} (r : Rt p) {i : Nat} (h : i < p.length) : at' p i < p.length := by
  rw [at_get h]; exact r.lt _ (List.getElem_mem h)
theorem Rt.inj {p : List Nat} (r : Rt p) {i j : Nat} (hi : i < p.length) (hj : j < p.length) (e : at' p i = at' p j) : i = j := by
  rw [at_get hi, at_get hj] at e
  have h := List.pairwise_iff_getElem.1 r.nd
  rcases Nat.lt_trichotomy i j with h1 | h1 | h1
  · exact absurd e (h i j hi hj h1)
  · exact h1
  · exact absurd e.symm (h j i hj hi h1)
theorem Rt.mem {p : List Nat} (r : Rt p) {x : Nat} (h : x < p.length) : x ∈ p := by
  apply Classical.byContradiction
  intro hx
  have h1 : (x :: p).Nodup := List.nodup_cons.2 ⟨hx, r.nd⟩
  have := h1.length_le_of_subset (l₂ := List.range p.length) (fun y hy => by
    rw [List.mem_range]
    rcases List.mem_cons.1 hy with rfl | hy
    · exact h
    · exact r.lt y hy)
  simp at this
  omega
theorem Rt.sur {p : List Nat} (r : Rt p) {x : Nat} (h : x < p.length) : ∃ i, i < p.length ∧ at' p i = x := by
  obtain ⟨i, hi, e⟩ := List.mem_iff_getElem.1 (r.mem h)
  exact ⟨i, hi, by rw [at_get hi]; exact e⟩
theorem rt_of {p : List Nat} (h1 : ∀ i, i < p.length → at' p i < p.length) (h2 : ∀ i j, i < p.length → j < p.length → at' p i = at' p j → i = j) : Rt p := by
  refine ⟨?_, fun x hx => ?_⟩
  · rw [List.Nodup, List.pairwise_iff_getElem]
    intro i j hi hj hij e
    have := h2 i j hi hj (by rw [at_get hi, at_get hj]; exact e)
    omega
  · obtain ⟨i, hi, rfl⟩ := List.mem_iff_getElem.1 hx
    rw [← at_get hi]; exact h1 i hi
theorem ext_at {p q : List Nat} (hl : p.length = q.length) (h : ∀ i, i < p.length → at' p i = at' q i) : p = q := by
  refine List.ext_getElem hl fun i h1 h2 => ?_
  have := h i h1
  rwa [at_get h1, at_get h2] at this
theorem rt_range (n : Nat) : Rt (List.range n) := ⟨List.nodup_range, fun x hx => by simpa using hx⟩
theorem at_range {n i : Nat} (h : i < n) : at' (List.range n) i = i := by rw [at_get (by simpa using h)]; simp
theorem at_map {f : Nat → Nat} {l : List Nat} {i : Nat} (h : i < l.length) : at' (l.map f) i = f (at' l i) := by
  rw [at_get (by simpa using h), at_get h]; simp
theorem at_mapr {f : Nat → Nat} {n i : Nat} (h : i < n) : at' ((List.range n).map f) i = f i := by
  rw [at_map (by simpa using h), at_range h]
theorem at_set {l : List Nat} {i j v : Nat} (h : i < l.length) : at' (l.set i v) j = if i = j then v else at' l j := by
  rw [at', List.getD_eq_getElem?_getD, List.getElem?_set]
  by_cases e : i = j
  · rw [if_pos e, if_pos e, if_pos h]; rfl
  · rw [if_neg e, if_neg e, at', List.getD_eq_getElem?_getD]

/-! ### Composition and inverse -/
def comp (p q : List Nat) : List Nat := q.map (at' p)
theorem comp_len (p q : List Nat) : (comp p q).length = q.length := List.length_map _
theorem comp_at {p q : List Nat} {i : Nat} (h : i < q.length) : at' (comp p q) i = at' p (at' q i) := at_map h
theorem comp_rt {p q : List Nat} (hp : Rt p) (hq : Rt q) (hl : p.length = q.length) : Rt (comp p q) := by
  refine rt_of (fun i hi => ?_) (fun i j hi hj e => ?_)
  · rw [comp_len] at hi ⊢
    rw [comp_at hi, ← hl]
    exact hp.ltAt (by rw [hl]; exact hq.ltAt hi)
  · rw [comp_len] at hi hj
    rw [comp_at hi, comp_at hj] at e
    exact hq.inj hi hj (hp.inj (by rw [hl]; exact hq.ltAt hi) (by rw [hl]; exact hq.ltAt hj) e)
theorem comp_assoc {p q r : List Nat} (hr : Rt r) (hl : q.length = r.length) : comp (comp p q) r = comp p (comp q r) := by
  refine ext_at (by simp [comp_len]) fun i hi => ?_
  rw [comp_len] at hi
  have h1 : at' r i < q.length := by rw [hl]; exact hr.ltAt hi
  rw [comp_at hi, comp_at h1, comp_at (q := comp q r) (by rw [comp_len]; exact hi), comp_at hi]
theorem comp_id (p : List Nat) : comp p (List.range p.length) = p := by
  refine ext_at (by simp [comp_len]) fun i hi => ?_
  simp only [comp_len, List.length_range] at hi
  rw [comp_at (by simpa using hi), at_range hi]
theorem id_comp {p : List Nat} (hp : Rt p) : comp (List.range p.length) p = p := by
  refine ext_at (by simp [comp_len]) fun i hi => ?_
  rw [comp_len] at hi
  rw [comp_at hi, at_range (hp.ltAt hi)]
def inv (p : List Nat) : List Nat := (List.range p.length).map fun x => p.idxOf x
theorem inv_len (p : List Nat) : (inv p).length = p.length := by simp [inv]
theorem Rt.idx {p : List Nat} (r : Rt p) {i : Nat} (h : i < p.length) : p.idxOf (at' p i) = i := by
  have hm : at' p i ∈ p := r.mem (r.ltAt h)
  have h1 := List.idxOf_lt_length_of_mem hm
  refine r.inj h1 h ?_
  rw [at_get h1, List.getElem_idxOf]
theorem Rt.atIdx {p : List Nat} (r : Rt p) {x : Nat} (h : x < p.length) : at' p (p.idxOf x) = x := by
  have h1 := List.idxOf_lt_length_of_mem (r.mem h)
  rw [at_get h1, List.getElem_idxOf]
theorem inv_at {p : List Nat} {x : Nat} (h : x < p.length) : at' (inv p) x = p.idxOf x := at_mapr h
theorem Rt.idxLt {p : List Nat} (r : Rt p) {x : Nat} (h : x < p.length) : p.idxOf x < p.length := List.idxOf_lt_length_of_mem (r.mem h)
theorem inv_rt {p : List Nat} (r : Rt p) : Rt (inv p) := by
  refine rt_of (fun i hi => ?_) (fun i j hi hj e => ?_)
  · rw [inv_len] at hi ⊢
    rw [inv_at hi]; exact r.idxLt hi
  · rw [inv_len] at hi hj
    rw [inv_at hi, inv_at hj] at e
    rw [← r.atIdx hi, ← r.atIdx hj, e]
theorem comp_inv {p : List Nat} (r : Rt p) : comp p (inv p) = List.range p.length := by
  refine ext_at (by simp [comp_len, inv_len]) fun i hi => ?_
  rw [comp_len, inv_len] at hi
  rw [comp_at (by rw [inv_len]; exact hi), inv_at hi, r.atIdx hi, at_range hi]
theorem inv_comp {p : List Nat} (r : Rt p) : comp (inv p) p = List.range p.length := by
  refine ext_at (by simp [comp_len]) fun i hi => ?_
  rw [comp_len] at hi
  rw [comp_at hi, inv_at (r.ltAt hi), r.idx hi, at_range hi]
theorem inv_comp2 {p q : List Nat} (hp : Rt p) (hq : Rt q) (hl : p.length = q.length) : inv (comp p q) = comp (inv q) (inv p) := by
  have hc := comp_rt hp hq hl
  refine ext_at (by simp [comp_len, inv_len, hl]) fun i hi => ?_
  rw [inv_len, comp_len] at hi
  have hi' : i < p.length := by omega
  rw [inv_at (by rw [comp_len]; exact hi), comp_at (by rw [inv_len]; exact hi'), inv_at hi', inv_at (by rw [← hl]; exact hp.idxLt hi')]
  have h1 : q.idxOf (p.idxOf i) < q.length := hq.idxLt (by rw [← hl]; exact hp.idxLt hi')
  refine hc.inj (hc.idxLt (by rw [comp_len]; exact hi)) (by rw [comp_len]; exact h1) ?_
  rw [hc.atIdx (by rw [comp_len]; exact hi), comp_at h1, hq.atIdx (by rw [← hl]; exact hp.idxLt hi'), hp.atIdx hi']

/-! ### Swaps and parity -/
def swp (p : List Nat) (a b : Nat) : List Nat := (p.set a (at' p b)).set b (at' p a)
theorem swp_len (p : List Nat) (a b : Nat) : (swp p a b).length = p.length := by simp [swp]
theorem swp_at {p : List Nat} {a b i : Nat} (ha : a < p.length) (hb : b < p.length) : at' (swp p a b) i = if b = i then at' p a else if a = i then at' p b else at' p i := by
  unfold swp
  rw [at_set (by simpa using hb), at_set ha]
theorem swp_comm {p : List Nat} {a b : Nat} (ha : a < p.length) (hb : b < p.length) : swp p a b = swp p b a := by
  refine ext_at (by simp [swp_len]) fun i hi => ?_
  rw [swp_at ha hb, swp_at hb ha]
  by_cases h1 : b = i <;> by_cases h2 : a = i <;> simp [h1, h2]
theorem swp_self {p : List Nat} {a : Nat} (ha : a < p.length) : swp p a a = p := by
  refine ext_at (by simp [swp_len]) fun i hi => ?_
  rw [swp_at ha ha]
  by_cases h1 : a = i
  · rw [if_pos h1, h1]
  · rw [if_neg h1, if_neg h1]
theorem swp_rt {p : List Nat} (r : Rt p) {a b : Nat} (ha : a < p.length) (hb : b < p.length) : Rt (swp p a b) := by
  refine rt_of (fun i hi => ?_) (fun i j hi hj e => ?_)
  · rw [swp_len] at hi ⊢
    rw [swp_at ha hb]
    split
    · exact r.ltAt ha
    · split
      · exact r.ltAt hb
      · exact r.ltAt hi
  · rw [swp_len] at hi hj
    rw [swp_at ha hb, swp_at ha hb] at e
    by_cases h1 : b = i
    · subst h1
      rw [if_pos rfl] at e
      by_cases h2 : b = j
      · exact h2
      · rw [if_neg h2] at e
        by_cases h3 : a = j
        · rw [if_pos h3] at e
          have := r.inj ha hb e; omega
        · rw [if_neg h3] at e
          exact absurd (r.inj ha hj e) h3
    · rw [if_neg h1] at e
      by_cases h2 : b = j
      · subst h2
        rw [if_pos rfl] at e
        by_cases h3 : a = i
        · rw [if_pos h3] at e
          have := r.inj hb ha e; omega
        · rw [if_neg h3] at e
          exact absurd (r.inj hi ha e).symm h3
      · rw [if_neg h2] at e
        by_cases h3 : a = i
        · rw [if_pos h3] at e
          by_cases h4 : a = j
          · omega
          · rw [if_neg h4] at e
            exact absurd (r.inj hb hj e) h2
        · rw [if_neg h3] at e
          by_cases h4 : a = j
          · rw [if_pos h4] at e
            exact absurd (r.inj hi hb e).symm h1
          · rw [if_neg h4] at e
            exact r.inj hi hj e
theorem swp_comp {p q : List Nat} {a b : Nat} (ha : a < q.length) (hb : b < q.length) : comp p (swp q a b) = swp (comp p q) a b := by
  refine ext_at (by simp [comp_len, swp_len]) fun i hi => ?_
  rw [comp_len, swp_len] at hi
  rw [comp_at (by rw [swp_len]; exact hi), swp_at ha hb, swp_at (by rw [comp_len]; exact ha) (by rw [comp_len]; exact hb), comp_at ha, comp_at hb, comp_at hi]
  split
  · rfl
  · split <;> rfl
/-- Is the number of pairs that stand in the wrong order odd? -/
def lessN (x : Nat) (l : List Nat) : Nat := l.countP fun y => decide (y < x)
def par : List Nat → Bool
  | [] => false
  | x :: l => xor (decide (lessN x l % 2 = 1)) (par l)
theorem lessN_cons (x y : Nat) (l : List Nat) : lessN x (y :: l) = lessN x l + if y < x then 1 else 0 := by
  simp [lessN, List.countP_cons]
theorem lessN_perm {x : Nat} {l m : List Nat} (h : l.Perm m) : lessN x l = lessN x m := h.countP_eq _
theorem odd_add (a b : Nat) : decide ((a + b) % 2 = 1) = xor (decide (a % 2 = 1)) (decide (b % 2 = 1)) := by
  rcases Nat.mod_two_eq_zero_or_one a with h | h <;> rcases Nat.mod_two_eq_zero_or_one b with h' | h' <;> simp [Nat.add_mod, h, h']
theorem par_adj {x y : Nat} (hxy : x ≠ y) (l : List Nat) : par (x :: y :: l) = !par (y :: x :: l) := by
  simp only [par, lessN_cons, odd_add]
  rcases Nat.lt_or_gt_of_ne hxy with h | h
  · have : ¬ y < x := by omega
    simp only [h, this, if_true, if_false]
    cases decide (lessN x l % 2 = 1) <;> cases decide (lessN y l % 2 = 1) <;> cases par l <;> rfl
  · have : ¬ x < y := by omega
    simp only [h, this, if_true, if_false]
    cases decide (lessN x l % 2 = 1) <;> cases decide (lessN y l % 2 = 1) <;> cases par l <;> rfl
theorem par_pre : ∀ (m : List Nat) {l l' : List Nat}, l.Perm l' → ∀ (b : Bool), par l = xor b (par l') → par (m ++ l) = xor b (par (m ++ l'))
  | [], _, _, _, _, h => h
  | x :: m, l, l', hp, b, h => by
    simp only [List.cons_append, par]
    rw [par_pre m hp b h, lessN_perm (l := m ++ l) (m := m ++ l') (hp.append_left m)]
    cases decide (lessN x (m ++ l') % 2 = 1) <;> cases b <;> cases par (m ++ l') <;> rfl
/-- An element is moved behind a list. -/
theorem par_move {x : Nat} : ∀ (m l : List Nat), x ∉ m → par (x :: m ++ l) = xor (decide (m.length % 2 = 1)) (par (m ++ x :: l))
  | [], l, _ => by simp
  | y :: m, l, h => by
    have h1 : x ≠ y := fun e => h (by rw [e]; exact List.mem_cons_self)
    have h2 := par_move m l (fun h' => h (List.mem_cons_of_mem _ h'))
    have h3 : par (x :: y :: m ++ l) = !par (y :: (x :: m ++ l)) := par_adj h1 (m ++ l)
    rw [h3]
    have h4 := par_pre [y] (l := x :: m ++ l) (l' := m ++ x :: l) List.perm_middle.symm _ h2
    simp only [List.cons_append, List.nil_append] at h4 ⊢
    rw [h4, List.length_cons, odd_add]
    cases decide (m.length % 2 = 1) <;> cases par (y :: (m ++ x :: l)) <;> rfl
theorem par_swap {x y : Nat} (a m l : List Nat) (hx : x ∉ m) (hy : y ∉ m) (hxy : x ≠ y) : par (a ++ x :: m ++ y :: l) = !par (a ++ y :: m ++ x :: l) := by
  have h : par (x :: m ++ y :: l) = !par (y :: m ++ x :: l) := by
    rw [par_move m (y :: l) hx, par_move m (x :: l) hy]
    have := par_pre m (l := x :: y :: l) (l' := y :: x :: l) (List.Perm.swap y x l) true (by rw [par_adj hxy]; cases par (y :: x :: l) <;> rfl)
    rw [this]
    cases decide (m.length % 2 = 1) <;> cases par (m ++ y :: x :: l) <;> rfl
  have hp : (x :: m ++ y :: l).Perm (y :: m ++ x :: l) := by
    have h1 : (x :: m ++ y :: l).Perm (x :: y :: (m ++ l)) := List.Perm.cons x List.perm_middle
    have h2 : (y :: m ++ x :: l).Perm (y :: x :: (m ++ l)) := List.Perm.cons y List.perm_middle
    exact (h1.trans (List.Perm.swap y x _)).trans h2.symm
  have := par_pre a hp true (by rw [h]; cases par (y :: m ++ x :: l) <;> rfl)
  rw [List.append_assoc, List.append_assoc, this]
  cases par (a ++ (y :: m ++ x :: l)) <;> rfl
theorem split_at {l : List Nat} {a b : Nat} (h1 : a < b) (h2 : b < l.length) : l = l.take a ++ at' l a :: (l.drop (a + 1)).take (b - a - 1) ++ at' l b :: l.drop (b + 1) := by
  conv => lhs; rw [← List.take_append_drop a l, List.drop_eq_getElem_cons (by omega), ← List.take_append_drop (b - a - 1) (l.drop (a + 1)), List.drop_drop, show a + 1 + (b - a - 1) = b by omega, List.drop_eq_getElem_cons h2]
  rw [at_get (by omega), at_get h2]
  simp
theorem par_swp {p : List Nat} (r : p.Nodup) {a b : Nat} (ha : a < p.length) (hb : b < p.length) (hab : a ≠ b) : par (swp p a b) = !par p := by
  have key : ∀ {a b : Nat}, a < b → b < p.length → par (swp p a b) = !par p := by
    intro a b h1 h2
    have hs := split_at h1 h2
    have e : swp p a b = p.take a ++ at' p b :: (p.drop (a + 1)).take (b - a - 1) ++ at' p a :: p.drop (b + 1) := by
      have hs2 := split_at (l := swp p a b) h1 (by rw [swp_len]; exact h2)
      rw [swp_at (by omega) h2, swp_at (by omega) h2, if_neg (by omega), if_pos rfl, if_pos rfl] at hs2
      rw [hs2]
      have t1 : (swp p a b).take a = p.take a := by
        unfold swp
        rw [List.take_set_of_le (by omega), List.take_set_of_le (by omega)]
      have t2 : (swp p a b).drop (b + 1) = p.drop (b + 1) := by
        unfold swp
        rw [List.drop_set_of_lt (by omega), List.drop_set_of_lt (by omega)]
      have t3 : ((swp p a b).drop (a + 1)).take (b - a - 1) = (p.drop (a + 1)).take (b - a - 1) := by
        refine List.ext_getElem (by simp [swp_len]) fun i h1 h2 => ?_
        simp [swp_len] at h1
        simp only [List.getElem_take, List.getElem_drop]
        unfold swp
        rw [List.getElem_set_ne (by omega), List.getElem_set_ne (by omega)]
      rw [t1, t2, t3]
    have hn : (p.take a ++ at' p a :: (p.drop (a + 1)).take (b - a - 1) ++ at' p b :: p.drop (b + 1)).Nodup := by rw [← hs]; exact r
    rw [e]
    conv => rhs; rw [hs]
    generalize at' p a = x at *
    generalize at' p b = y at *
    generalize (p.drop (a + 1)).take (b - a - 1) = m at *
    rw [List.append_assoc, List.nodup_append] at hn
    obtain ⟨_, hn, _⟩ := hn
    rw [List.cons_append, List.nodup_cons] at hn
    obtain ⟨hx, hn⟩ := hn
    rw [List.nodup_append] at hn
    obtain ⟨_, hn2, hd⟩ := hn
    refine par_swap _ _ _ (fun h => hd y h y (by simp) rfl) (fun h => hx (by simp [h])) (fun e => hx (by simp [e]))
  rcases Nat.lt_or_gt_of_ne hab with h | h
  · exact key h hb
  · rw [swp_comm ha hb]; exact key h ha
/-- 'y' comes of 'x' by swaps of different places; 'b': an odd number of them. -/
inductive Sw (x : List Nat) : Bool → List Nat → Prop
  | refl : Sw x false x
  | swap {b : Bool} {y : List Nat} {i j : Nat} : Sw x b y → i < x.length → j < x.length → i ≠ j → Sw x (!b) (swp y i j)
theorem Sw.len {x y : List Nat} {b : Bool} (h : Sw x b y) : y.length = x.length := by
  induction h with
  | refl => rfl
  | swap _ _ _ _ ih => rw [swp_len]; exact ih
theorem Sw.rt {x y : List Nat} {b : Bool} (h : Sw x b y) (r : Rt x) : Rt y := by
  induction h with
  | refl => exact r
  | swap h' h1 h2 _ ih => exact swp_rt ih (by rw [h'.len]; exact h1) (by rw [h'.len]; exact h2)
theorem Sw.par {x y : List Nat} {b : Bool} (h : Sw x b y) (r : Rt x) : par y = xor b (par x) := by
  induction h with
  | refl => simp
  | swap h' h1 h2 h3 ih =>
    rw [par_swp (h'.rt r).nd (by rw [h'.len]; exact h1) (by rw [h'.len]; exact h2) h3, ih]
    rename_i b _ _ _
    cases b <;> cases Go.Pm.par x <;> rfl
theorem Sw.comp {p x y : List Nat} {b : Bool} (h : Sw x b y) : Sw (comp p x) b (comp p y) := by
  induction h with
  | refl => exact .refl
  | swap h' h1 h2 h3 ih =>
    rw [swp_comp (by rw [h'.len]; exact h1) (by rw [h'.len]; exact h2)]
    exact .swap ih (by rw [comp_len]; exact h1) (by rw [comp_len]; exact h2) h3
theorem par_range (n : Nat) : par (List.range n) = false := by
  have : ∀ (k n : Nat), par (List.range' k n) = false := by
    intro k n
    induction n generalizing k with
    | zero => rfl
    | succ n ih =>
      rw [List.range'_succ, par, ih]
      have : lessN k (List.range' (k + 1) n) = 0 := by
        rw [lessN, List.countP_eq_zero]
        intro y hy
        have := (List.mem_range'_1.1 hy).1
        simp; omega
      rw [this]; rfl
  rw [List.range_eq_range']; exact this 0 n
theorem par_comp {p q : List Nat} {b : Bool} (hp : Rt p) (hl : p.length = q.length) (hq : Sw (List.range q.length) b q) : par (comp p q) = xor (par p) (par q) := by
  have h1 := hq.comp (p := p)
  rw [← hl, comp_id] at h1
  rw [h1.par hp, hq.par (rt_range _), par_range]
  cases b <;> cases par p <;> rfl
end Go.Pm
