/-
  Layer 7, in plain terms: cells, places, directions.
-/
import Derived.WalkKit
namespace Go.Fl
set_option linter.unusedVariables false

structure Flo where
  w : Int
  h : Int
  d : Int
  k : List Int
  o : List Int

def Flo.size (f : Flo) : Int := f.w * f.h * f.d

structure Fine (f : Flo) : Prop where
  w1 : 1 ≤ f.w
  h1 : 1 ≤ f.h
  d1 : 1 ≤ f.d
  kl : (f.k.length : Int) = f.w * f.h * f.d
  ol : f.o.length = f.k.length
  le : f.k.length ≤ 300
  k : ∀ (i : Nat) (h : i < f.k.length), 0 ≤ f.k[i] ∧ f.k[i] ≤ 6
  o : ∀ (i : Nat) (h : i < f.o.length), 0 ≤ f.o[i] ∧ f.o[i] ≤ 63

theorem le_mul_pos {a b : Int} (ha : 0 ≤ a) (hb : 1 ≤ b) : a ≤ a * b := by
  have := Int.mul_le_mul_of_nonneg_left hb ha
  rwa [Int.mul_one] at this

theorem Fine.bounds {f : Flo} (g : Fine f) : 1 ≤ f.w * f.h ∧ f.w ≤ f.w * f.h ∧ f.h ≤ f.w * f.h ∧ f.w * f.h ≤ f.w * f.h * f.d ∧ f.d ≤ f.w * f.h * f.d ∧ f.w * f.h * f.d ≤ 300 := by
  have h1 := le_mul_pos (a := f.w) (b := f.h) (by have := g.w1; omega) g.h1
  have h2 := le_mul_pos (a := f.h) (b := f.w) (by have := g.h1; omega) g.w1
  rw [Int.mul_comm f.h f.w] at h2
  have hw := g.w1
  have h3 := le_mul_pos (a := f.w * f.h) (b := f.d) (by omega) g.d1
  have h4 := le_mul_pos (a := f.d) (b := f.w * f.h) (by have := g.d1; omega) (by omega)
  rw [Int.mul_comm f.d] at h4
  have := g.kl
  have := g.le
  refine ⟨by omega, h1, h2, h3, h4, by omega⟩

def cellI (f : Flo) (x y z : Int) : Int := if x < 0 ∨ y < 0 ∨ z < 0 ∨ f.w ≤ x ∨ f.h ≤ y ∨ f.d ≤ z then -1 else (z * f.h + y) * f.w + x
def dxI (d : Int) : Int := if d = 0 then 1 else if d = 2 then -1 else 0
def dyI (d : Int) : Int := if d = 1 then 1 else if d = 3 then -1 else 0
def dzI (d : Int) : Int := if d = 4 then 1 else if d = 5 then -1 else 0
def besideI (f : Flo) (c d : Int) : Int := if c < 0 ∨ f.size ≤ c ∨ d < 0 ∨ 6 ≤ d then -1 else cellI f (c % f.w + dxI d) (c / f.w % f.h + dyI d) (c / (f.w * f.h) + dzI d)
def oppI (d : Int) : Int := if d = 0 then 2 else if d = 1 then 3 else if d = 2 then 0 else if d = 3 then 1 else if d = 4 then 5 else if d = 5 then 4 else -1
def bitI (f : Flo) (c d : Int) : Int := (f.o.getD c.toNat 0 / 2 ^ d.toNat) % 2
def kindI (f : Flo) (c : Int) : Int := f.k.getD c.toNat 0
def passI (f : Flo) (c n d : Int) : Prop := kindI f c ≠ 0 ∧ kindI f n ≠ 0 ∧ bitI f c d ≠ 0 ∧ (d = 4 ∨ d = 5 → kindI f c = 6 ∧ kindI f n = 6)
instance (f : Flo) (c n d : Int) : Decidable (passI f c n d) := by unfold passI; infer_instance
def nextI (f : Flo) (c d : Int) : Option Int := if 0 ≤ besideI f c d ∧ passI f c (besideI f c d) d then some (besideI f c d) else none
section
variable {f : Flo}
theorem at_range (g : Fine f) {c : Int} (h0 : 0 ≤ c) (h1 : c < f.size) : (0 ≤ c % f.w ∧ c % f.w < f.w) ∧ (0 ≤ c / f.w % f.h ∧ c / f.w % f.h < f.h) ∧ (0 ≤ c / (f.w * f.h) ∧ c / (f.w * f.h) < f.d) := by
  have hw := g.w1
  have hh := g.h1
  obtain ⟨b1, _⟩ := g.bounds
  refine ⟨⟨Int.emod_nonneg _ (by omega), Int.emod_lt_of_pos _ (by omega)⟩, ⟨Int.emod_nonneg _ (by omega), Int.emod_lt_of_pos _ (by omega)⟩, Int.ediv_nonneg h0 (by omega), ?_⟩
  refine Int.ediv_lt_of_lt_mul (by omega) ?_
  rw [Int.mul_comm]; exact h1
theorem at_cell (g : Fine f) {c : Int} (h0 : 0 ≤ c) (h1 : c < f.size) : (c / (f.w * f.h) * f.h + c / f.w % f.h) * f.w + c % f.w = c := by
  have hw := g.w1
  have e1 : c / (f.w * f.h) = c / f.w / f.h := (Int.ediv_ediv_of_nonneg (by omega)).symm
  rw [e1]
  have e2 : c / f.w / f.h * f.h + c / f.w % f.h = c / f.w := Int.ediv_mul_add_emod _ _
  rw [e2]
  exact Int.ediv_mul_add_emod _ _
theorem cell_back (g : Fine f) {x y z : Int} (hx : 0 ≤ x ∧ x < f.w) (hy : 0 ≤ y ∧ y < f.h) (hz : 0 ≤ z ∧ z < f.d) :
    (0 ≤ (z * f.h + y) * f.w + x ∧ (z * f.h + y) * f.w + x < f.size) ∧ ((z * f.h + y) * f.w + x) % f.w = x ∧ ((z * f.h + y) * f.w + x) / f.w % f.h = y ∧ ((z * f.h + y) * f.w + x) / (f.w * f.h) = z := by
  have hw := g.w1
  have hh := g.h1
  have e1 : ((z * f.h + y) * f.w + x) / f.w = z * f.h + y := by
    rw [Int.add_comm, Int.add_mul_ediv_right _ _ (by omega), Int.ediv_eq_zero_of_lt hx.1 hx.2, Int.zero_add]
  have e2 : (z * f.h + y) / f.h = z := by
    rw [Int.add_comm, Int.add_mul_ediv_right _ _ (by omega), Int.ediv_eq_zero_of_lt hy.1 hy.2, Int.zero_add]
  have n1 : 0 ≤ z * f.h := Int.mul_nonneg hz.1 (by omega)
  have n2 : 0 ≤ (z * f.h + y) * f.w := Int.mul_nonneg (by omega) (by omega)
  refine ⟨⟨by omega, ?_⟩, ?_, ?_, ?_⟩
  · have k1 : z * f.h ≤ (f.d - 1) * f.h := Int.mul_le_mul_of_nonneg_right (by omega) (by omega)
    rw [Int.sub_mul, Int.one_mul] at k1
    have k2 : (z * f.h + y) * f.w ≤ (f.d * f.h - 1) * f.w := Int.mul_le_mul_of_nonneg_right (by omega) (by omega)
    rw [Int.sub_mul, Int.one_mul] at k2
    have k3 : f.d * f.h * f.w = f.size := by unfold Flo.size; rw [Int.mul_comm, ← Int.mul_assoc, Int.mul_right_comm]
    omega
  · rw [Int.add_comm, Int.add_mul_emod_self_right, Int.emod_eq_of_lt hx.1 hx.2]
  · rw [e1, Int.add_comm, Int.add_mul_emod_self_right, Int.emod_eq_of_lt hy.1 hy.2]
  · rw [← Int.ediv_ediv_of_nonneg (by omega), e1, e2]
theorem beside_at (g : Fine f) {c d : Int} (h : 0 ≤ besideI f c d) : (0 ≤ c ∧ c < f.size) ∧ (0 ≤ d ∧ d < 6) ∧ besideI f c d < f.size ∧ besideI f c d % f.w = c % f.w + dxI d ∧ besideI f c d / f.w % f.h = c / f.w % f.h + dyI d ∧ besideI f c d / (f.w * f.h) = c / (f.w * f.h) + dzI d := by
  unfold besideI at h ⊢
  split at h
  · omega
  · rename_i h0
    rw [if_neg h0]
    unfold cellI at h ⊢
    split at h
    · omega
    · rename_i h1
      rw [if_neg h1]
      obtain ⟨a0, a1, a2, a3⟩ := cell_back g (x := c % f.w + dxI d) (y := c / f.w % f.h + dyI d) (z := c / (f.w * f.h) + dzI d) (by omega) (by omega) (by omega)
      exact ⟨by omega, by omega, a0.2, a1, a2, a3⟩
theorem beside_cell (g : Fine f) {c d n : Int} (hc : 0 ≤ c ∧ c < f.size) (hd : 0 ≤ d ∧ d < 6) (hn : 0 ≤ n ∧ n < f.size) (h1 : n % f.w = c % f.w + dxI d) (h2 : n / f.w % f.h = c / f.w % f.h + dyI d) (h3 : n / (f.w * f.h) = c / (f.w * f.h) + dzI d) : besideI f c d = n := by
  unfold besideI
  rw [if_neg (by omega), ← h1, ← h2, ← h3]
  unfold cellI
  have := at_range g hn.1 hn.2
  rw [if_neg (by omega)]
  exact at_cell g hn.1 hn.2
theorem opp_d {d : Int} (hd : 0 ≤ d ∧ d < 6) : (0 ≤ oppI d ∧ oppI d < 6) ∧ oppI (oppI d) = d ∧ oppI d ≠ d ∧ dxI (oppI d) = - dxI d ∧ dyI (oppI d) = - dyI d ∧ dzI (oppI d) = - dzI d := by
  have h : d = 0 ∨ d = 1 ∨ d = 2 ∨ d = 3 ∨ d = 4 ∨ d = 5 := by omega
  rcases h with rfl | rfl | rfl | rfl | rfl | rfl <;> decide
theorem d_far {d : Int} (hd : 0 ≤ d ∧ d < 6) : (dxI d).natAbs + (dyI d).natAbs + (dzI d).natAbs = 1 := by
  have h : d = 0 ∨ d = 1 ∨ d = 2 ∨ d = 3 ∨ d = 4 ∨ d = 5 := by omega
  rcases h with rfl | rfl | rfl | rfl | rfl | rfl <;> decide
theorem beside_opp (g : Fine f) {c d : Int} (h : 0 ≤ besideI f c d) : besideI f (besideI f c d) (oppI d) = c ∧ besideI f c d ≠ c := by
  obtain ⟨h1, h2, h3, h4, h5, h6⟩ := beside_at g h
  obtain ⟨o1, _, _, o4, o5, o6⟩ := opp_d h2
  refine ⟨beside_cell g ⟨h, h3⟩ o1 h1 (by omega) (by omega) (by omega), fun e => ?_⟩
  rw [e] at h4 h5 h6
  have := d_far h2
  omega
theorem next_some (g : Fine f) {c d n : Int} (h : nextI f c d = some n) : (0 ≤ c ∧ c < f.size) ∧ (0 ≤ d ∧ d < 6) ∧ (0 ≤ n ∧ n < f.size) ∧ besideI f c d = n ∧ passI f c n d := by
  unfold nextI at h
  split at h
  · rename_i h1
    cases h
    obtain ⟨a1, a2, a3, _⟩ := beside_at g h1.1
    exact ⟨a1, a2, ⟨h1.1, a3⟩, rfl, h1.2⟩
  · cases h
end
end Go.Fl
