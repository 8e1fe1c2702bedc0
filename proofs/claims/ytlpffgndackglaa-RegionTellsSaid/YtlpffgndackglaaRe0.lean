/-
  Layer 8, in plain terms: ascending lists, merged.
-/
import Derived.WalkKit
namespace Go.Re
set_option linter.unusedVariables false

abbrev Asc (l : List Int) : Prop := l.Pairwise (· < ·)
def mst : List Int → List Int → (Int × Bool × Bool) × List Int × List Int
  | [], [] => ((0, false, false), [], [])
  | x :: a, [] => ((x, true, false), a, [])
  | [], y :: b => ((y, false, true), [], b)
  | x :: a, y :: b => if x < y then ((x, true, false), a, y :: b) else if y < x then ((y, false, true), x :: a, b) else ((x, true, true), a, b)
def mrgF : Nat → List Int → List Int → List (Int × Bool × Bool)
  | 0, _, _ => []
  | k + 1, a, b => if a.length + b.length = 0 then [] else (mst a b).1 :: mrgF k (mst a b).2.1 (mst a b).2.2
def mrg (a b : List Int) : List (Int × Bool × Bool) := mrgF (a.length + b.length) a b
theorem mst_lt (a b : List Int) (h : a.length + b.length ≠ 0) : (mst a b).2.1.length + (mst a b).2.2.length < a.length + b.length := by
  match a, b with
  | [], [] => simp at h
  | x :: a, [] => simp [mst]
  | [], y :: b => simp [mst]
  | x :: a, y :: b =>
    simp only [mst]
    split
    · simp only [List.length_cons]; omega
    · split <;> simp only [List.length_cons] <;> omega
theorem mrgF_fuel : ∀ (k k' : Nat) (a b : List Int), a.length + b.length ≤ k → a.length + b.length ≤ k' → mrgF k a b = mrgF k' a b := by
  intro k
  induction k with
  | zero =>
    intro k' a b h _
    cases k' with
    | zero => rfl
    | succ k' => rw [mrgF, mrgF, if_pos (by omega)]
  | succ k ih =>
    intro k' a b h h'
    cases k' with
    | zero => rw [mrgF, mrgF, if_pos (by omega)]
    | succ k' =>
      rw [mrgF, mrgF]
      split
      · rfl
      · rename_i h0
        have := mst_lt a b h0
        rw [ih k' _ _ (by omega) (by omega)]
theorem mrg_nil {a b : List Int} (h : a.length + b.length = 0) : mrg a b = [] := by unfold mrg; rw [h]; rfl
theorem mrg_cons {a b : List Int} (h : a.length + b.length ≠ 0) : mrg a b = (mst a b).1 :: mrg (mst a b).2.1 (mst a b).2.2 := by
  have hlt := mst_lt a b h
  unfold mrg
  obtain ⟨k, hk⟩ : ∃ k, a.length + b.length = k + 1 := ⟨a.length + b.length - 1, by omega⟩
  rw [hk, mrgF, if_neg h]
  congr 1
  exact mrgF_fuel _ _ _ _ (by omega) (by omega)
theorem mrg_len : ∀ (k : Nat) (a b : List Int), a.length + b.length ≤ k → (mrg a b).length ≤ a.length + b.length := by
  intro k
  induction k with
  | zero => intro a b h; rw [mrg_nil (by omega)]; simp
  | succ k ih =>
    intro a b h
    by_cases h0 : a.length + b.length = 0
    · rw [mrg_nil h0]; simp
    · have hlt := mst_lt a b h0
      rw [mrg_cons h0]
      have := ih _ _ (show (mst a b).2.1.length + (mst a b).2.2.length ≤ k by omega)
      simp only [List.length_cons]; omega
/-- What comes out is ascending, and says where each comes from. -/
theorem mrg_spec : ∀ (k : Nat) (a b : List Int), a.length + b.length ≤ k → Asc a → Asc b → Asc ((mrg a b).map (·.1)) ∧ (∀ t, t ∈ mrg a b → (t.2.1 = true ↔ t.1 ∈ a) ∧ (t.2.2 = true ↔ t.1 ∈ b)) ∧ (∀ c, c ∈ (mrg a b).map (·.1) ↔ c ∈ a ∨ c ∈ b) := by
  intro k
  induction k with
  | zero =>
    intro a b h _ _
    have ha : a = [] := List.eq_nil_of_length_eq_zero (by omega)
    have hb : b = [] := List.eq_nil_of_length_eq_zero (by omega)
    subst ha hb
    rw [mrg_nil rfl]
    simp
  | succ k ih =>
    intro a b h ha hb
    by_cases h0 : a.length + b.length = 0
    · have ha : a = [] := List.eq_nil_of_length_eq_zero (by omega)
      have hb : b = [] := List.eq_nil_of_length_eq_zero (by omega)
      subst ha hb
      rw [mrg_nil rfl]
      simp
    have hlt := mst_lt a b h0
    -- one step
    have key : ∀ (c : Int) (p q : Bool) (a' b' : List Int), mst a b = ((c, p, q), a', b') → Asc a' → Asc b' → (∀ z, z ∈ a' → c < z) → (∀ z, z ∈ b' → c < z) → (p = true ↔ c ∈ a) → (q = true ↔ c ∈ b) → (∀ z, z ∈ a ↔ z ∈ a' ∨ (p = true ∧ z = c)) → (∀ z, z ∈ b ↔ z ∈ b' ∨ (q = true ∧ z = c)) → (p = true ∨ q = true) →
        Asc ((mrg a b).map (·.1)) ∧ (∀ t, t ∈ mrg a b → (t.2.1 = true ↔ t.1 ∈ a) ∧ (t.2.2 = true ↔ t.1 ∈ b)) ∧ (∀ c, c ∈ (mrg a b).map (·.1) ↔ c ∈ a ∨ c ∈ b) := by
      intro c p q a' b' e ha' hb' g1 g2 g3 g4 g5 g6 g7
      rw [mrg_cons h0, e]
      rw [e] at hlt
      obtain ⟨i1, i2, i3⟩ := ih a' b' (by simp only at hlt; omega) ha' hb'
      refine ⟨?_, ?_, ?_⟩
      · simp only [List.map_cons]
        rw [Asc, List.pairwise_cons]
        refine ⟨fun z hz => ?_, i1⟩
        rcases (i3 z).1 hz with h | h
        · exact g1 z h
        · exact g2 z h
      · intro t ht
        rcases List.mem_cons.1 ht with rfl | ht
        · exact ⟨g3, g4⟩
        · have hm := (i3 t.1).1 (List.mem_map.2 ⟨t, ht, rfl⟩)
          have hne : t.1 ≠ c := fun e => by
            rcases hm with h | h
            · have := g1 _ h; omega
            · have := g2 _ h; omega
          obtain ⟨j1, j2⟩ := i2 t ht
          rw [j1, j2, g5, g6]
          simp [hne]
      · intro z
        simp only [List.map_cons, List.mem_cons]
        rw [i3, g5, g6]
        constructor
        · rintro (rfl | h | h)
          · rcases g7 with h | h
            · exact .inl (.inr ⟨h, rfl⟩)
            · exact .inr (.inr ⟨h, rfl⟩)
          · exact .inl (.inl h)
          · exact .inr (.inl h)
        · rintro ((h | ⟨_, h⟩) | (h | ⟨_, h⟩))
          · exact .inr (.inl h)
          · exact .inl h
          · exact .inr (.inr h)
          · exact .inl h
    cases a with
    | nil =>
     cases b with
     | nil => exact absurd rfl h0
     | cons y b =>
      rw [Asc, List.pairwise_cons] at hb
      exact key y false true [] b rfl ha hb.2 (by simp) hb.1 (by simp) (by simp) (by simp) (fun z => by simp [or_comm]) (.inr rfl)
    | cons x a =>
     cases b with
     | nil =>
      rw [Asc, List.pairwise_cons] at ha
      exact key x true false a [] rfl ha.2 hb ha.1 (by simp) (by simp) (by simp) (fun z => by simp [or_comm]) (by simp) (.inl rfl)
     | cons y b =>
      have ha' := ha
      have hb' := hb
      rw [Asc, List.pairwise_cons] at ha hb
      by_cases h1 : x < y
      · have hny : x ∉ y :: b := fun hm => by
          rcases List.mem_cons.1 hm with e | hm
          · omega
          · have := hb.1 x hm; omega
        refine key x true false a (y :: b) (by simp only [mst, if_pos h1]) ha.2 hb' ha.1 (fun z hz => ?_) (by simp) (by simp only [Bool.false_eq_true, false_iff]; exact hny) (fun z => by simp [or_comm]) (fun z => by simp) (.inl rfl)
        rcases List.mem_cons.1 hz with e | hz
        · omega
        · have := hb.1 z hz; omega
      · by_cases h2 : y < x
        · have hnx : y ∉ x :: a := fun hm => by
            rcases List.mem_cons.1 hm with e | hm
            · omega
            · have := ha.1 y hm; omega
          refine key y false true (x :: a) b (by simp only [mst, if_neg h1, if_pos h2]) ha' hb.2 (fun z hz => ?_) hb.1 (by simp only [Bool.false_eq_true, false_iff]; exact hnx) (by simp) (fun z => by simp) (fun z => by simp [or_comm]) (.inr rfl)
          rcases List.mem_cons.1 hz with e | hz
          · omega
          · have := ha.1 z hz; omega
        · have e : x = y := by omega
          subst e
          exact key x true true a b (by simp only [mst, if_neg h1]) ha.2 hb.2 ha.1 hb.1 (by simp) (by simp) (fun z => by simp [or_comm]) (fun z => by simp [or_comm]) (.inl rfl)
def unionM (a b : List Int) : List Int := (mrg a b).map (·.1)
def interM (a b : List Int) : List Int := ((mrg a b).filter fun t => t.2.1 && t.2.2).map (·.1)
def diffM (a b : List Int) : List Int := ((mrg a b).filter fun t => !t.2.2).map (·.1)
section
variable {a b : List Int}
theorem union_asc (ha : Asc a) (hb : Asc b) : Asc (unionM a b) := (mrg_spec _ a b (Nat.le_refl _) ha hb).1
theorem mem_union (ha : Asc a) (hb : Asc b) {c : Int} : c ∈ unionM a b ↔ c ∈ a ∨ c ∈ b := (mrg_spec _ a b (Nat.le_refl _) ha hb).2.2 c
theorem filter_asc (ha : Asc a) (hb : Asc b) (p : Int × Bool × Bool → Bool) : Asc (((mrg a b).filter p).map (·.1)) :=
  List.Pairwise.sublist ((List.filter_sublist).map _) (mrg_spec _ a b (Nat.le_refl _) ha hb).1
theorem inter_asc (ha : Asc a) (hb : Asc b) : Asc (interM a b) := filter_asc ha hb _
theorem diff_asc (ha : Asc a) (hb : Asc b) : Asc (diffM a b) := filter_asc ha hb _
theorem mem_filter (ha : Asc a) (hb : Asc b) (p : Int × Bool × Bool → Bool) (P : Int → Prop) (hp : ∀ t : Int × Bool × Bool, (t.2.1 = true ↔ t.1 ∈ a) → (t.2.2 = true ↔ t.1 ∈ b) → (p t = true ↔ P t.1)) {c : Int} : c ∈ ((mrg a b).filter p).map (·.1) ↔ (c ∈ a ∨ c ∈ b) ∧ P c := by
  obtain ⟨_, h2, h3⟩ := mrg_spec _ a b (Nat.le_refl _) ha hb
  rw [← h3]
  simp only [List.mem_map, List.mem_filter]
  constructor
  · rintro ⟨t, ⟨ht, hpt⟩, rfl⟩
    exact ⟨⟨t, ht, rfl⟩, (hp t (h2 t ht).1 (h2 t ht).2).1 hpt⟩
  · rintro ⟨⟨t, ht, rfl⟩, hP⟩
    exact ⟨t, ⟨ht, (hp t (h2 t ht).1 (h2 t ht).2).2 hP⟩, rfl⟩
theorem mem_inter (ha : Asc a) (hb : Asc b) {c : Int} : c ∈ interM a b ↔ c ∈ a ∧ c ∈ b := by
  unfold interM
  rw [mem_filter ha hb _ (fun c => c ∈ a ∧ c ∈ b) (fun t h1 h2 => by rw [Bool.and_eq_true, h1, h2])]
  exact ⟨fun h => h.2, fun h => ⟨.inl h.1, h⟩⟩
theorem mem_diff (ha : Asc a) (hb : Asc b) {c : Int} : c ∈ diffM a b ↔ c ∈ a ∧ c ∉ b := by
  unfold diffM
  rw [mem_filter ha hb _ (fun c => c ∉ b) (fun t h1 h2 => by rw [← h2]; simp)]
  exact ⟨fun h => ⟨h.1.resolve_right h.2, h.2⟩, fun h => ⟨.inl h.1, h.2⟩⟩
theorem filter_len (p : Int × Bool × Bool → Bool) : (((mrg a b).filter p).map (·.1)).length ≤ a.length + b.length := by
  rw [List.length_map]
  exact Nat.le_trans (List.length_filter_le _ _) (mrg_len _ a b (Nat.le_refl _))
theorem union_len : (unionM a b).length ≤ a.length + b.length := by
  unfold unionM
  rw [List.length_map]
  exact mrg_len _ a b (Nat.le_refl _)
/-- Ascending lists with the same elements are the same. -/
theorem asc_ext : ∀ {a b : List Int}, Asc a → Asc b → (∀ c, c ∈ a ↔ c ∈ b) → a = b
  | [], [], _, _, _ => rfl
  | x :: a, [], _, _, h => by have := (h x).1 (by simp); cases this
  | [], y :: b, _, _, h => by have := (h y).2 (by simp); cases this
  | x :: a, y :: b, ha, hb, h => by
    rw [Asc, List.pairwise_cons] at ha hb
    have h1 := (h x).1 (by simp)
    have h2 := (h y).2 (by simp)
    have e : x = y := by
      rcases List.mem_cons.1 h1 with e | h1
      · exact e
      · rcases List.mem_cons.1 h2 with e | h2
        · exact e.symm
        · have := hb.1 x h1; have := ha.1 y h2; omega
    subst e
    congr 1
    refine asc_ext ha.2 hb.2 fun c => ?_
    have := h c
    simp only [List.mem_cons] at this
    constructor
    · intro hc
      rcases this.1 (.inr hc) with e | h
      · have := ha.1 c hc; omega
      · exact h
    · intro hc
      rcases this.2 (.inr hc) with e | h
      · have := hb.1 c hc; omega
      · exact h
theorem asc_nodup (ha : Asc a) : a.Nodup := List.Pairwise.imp (fun h => by omega) ha
end

/-! ### Regions -/
def RegP (r : List Int) : Prop := Asc r ∧ ∀ c, c ∈ r → 0 ≤ c ∧ c < 4096
def regB (r : List Int) : Bool := (List.range r.length).all fun i => decide (0 ≤ r.getD i 0 ∧ r.getD i 0 < 4096) && (decide (i = 0) || decide (r.getD (i - 1) 0 < r.getD i 0))
theorem getD_eq {l : List Int} {i : Nat} (h : i < l.length) : l.getD i 0 = l[i] := by simp [List.getD_eq_getElem?_getD, h]
theorem regB_iff {r : List Int} : regB r = true ↔ RegP r := by
  unfold regB RegP
  rw [List.all_eq_true]
  simp only [List.mem_range, Bool.and_eq_true, decide_eq_true_eq, Bool.or_eq_true]
  constructor
  · intro h
    refine ⟨?_, fun c hc => ?_⟩
    · rw [Asc, List.pairwise_iff_getElem]
      intro i j hi hj hij
      have key : ∀ d i (hi : i < r.length) (hd : i + d + 1 < r.length), r[i] < r[i + d + 1] := by
        intro d
        induction d with
        | zero =>
          intro i hi hd
          have := (h (i + 1) (by omega)).2
          rw [getD_eq (show i + 1 < r.length by omega), show i + 1 - 1 = i by omega, getD_eq hi] at this
          rcases this with e | e
          · omega
          · simpa using e
        | succ d ih =>
          intro i hi hd
          have h1 := ih i hi (by omega)
          have := (h (i + (d + 1) + 1) (by omega)).2
          rw [getD_eq (show i + (d + 1) + 1 < r.length by omega), show i + (d + 1) + 1 - 1 = i + d + 1 by omega, getD_eq (show i + d + 1 < r.length by omega)] at this
          rcases this with e | e
          · omega
          · omega
      have := key (j - i - 1) i hi (by omega)
      simpa only [show i + (j - i - 1) + 1 = j by omega] using this
    · obtain ⟨i, hi, rfl⟩ := List.mem_iff_getElem.1 hc
      have := (h i hi).1
      rwa [getD_eq hi] at this
  · rintro ⟨h1, h2⟩ i hi
    rw [getD_eq hi]
    refine ⟨h2 _ (List.getElem_mem hi), ?_⟩
    by_cases h0 : i = 0
    · exact .inl h0
    · right
      rw [getD_eq (show i - 1 < r.length by omega)]
      exact List.pairwise_iff_getElem.1 h1 (i - 1) i (by omega) hi (by omega)
end Go.Re
