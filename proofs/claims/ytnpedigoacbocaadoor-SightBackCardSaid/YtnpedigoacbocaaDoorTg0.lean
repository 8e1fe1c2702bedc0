/-
  Layer 36: how boxes, lots, kinds and evidence stand in memory; what the functions of package sight compute, in plain terms.
-/
import Derived.Test.YtnpedigoacbocaaDoorStC
namespace Go.Proofs.YtnpedigoacbocaaDoor
open Go Go.Ab
set_option linter.unusedVariables false
set_option linter.unusedSimpArgs false

theorem ints_getI {l : List Int} {j : Int} (h0 : 0 ≤ j) (h : j < l.length) : (ints l)[j.toNat]? = some [AV.i (l[j.toNat]'(by omega))] := ints_get (by omega)

abbrev BX := Int × Int × Int
abbrev LT := Int × Int × Bool
abbrev KD := ByteArray × Int
abbrev boxes (l : List BX) : List (List AV) := l.map fun b => [AV.i b.1, AV.i b.2.1, AV.i b.2.2]
abbrev lots (l : List LT) : List (List AV) := l.map fun b => [AV.i b.1, AV.i b.2.1, AV.b b.2.2]
abbrev kinds (l : List KD) : List (List AV) := l.map fun b => [AV.v (.string b.1), AV.i b.2]
theorem boxes_len (l : List BX) : ∀ e, e ∈ boxes l → e.length = 3 := by intro e he; obtain ⟨n, _, rfl⟩ := List.mem_map.1 he; rfl
theorem lots_len (l : List LT) : ∀ e, e ∈ lots l → e.length = 3 := by intro e he; obtain ⟨n, _, rfl⟩ := List.mem_map.1 he; rfl
theorem kinds_len (l : List KD) : ∀ e, e ∈ kinds l → e.length = 2 := by intro e he; obtain ⟨n, _, rfl⟩ := List.mem_map.1 he; rfl
theorem boxes_get {l : List BX} {k : Nat} (h : k < l.length) : (boxes l)[k]? = some [AV.i l[k].1, AV.i l[k].2.1, AV.i l[k].2.2] := by simp [h]
theorem lots_get {l : List LT} {k : Nat} (h : k < l.length) : (lots l)[k]? = some [AV.i l[k].1, AV.i l[k].2.1, AV.b l[k].2.2] := by simp [h]
theorem kinds_get {l : List KD} {k : Nat} (h : k < l.length) : (kinds l)[k]? = some [AV.v (.string l[k].1), AV.i l[k].2] := by simp [h]

abbrev sensesA (m st er sl : Int) : AV := .agg [.i m, .i st, .i er, .i sl]
abbrev sightA (k a b n : Int) (ids : List Int) : AV := .agg [.i k, .i a, .i b, .i n, .rowE (ints ids) 1]
theorem b_ret {a b : Bool} (h : a = b) : AV.b a = AV.b b := by rw [h]

def withinB (n f t : Int) : Bool := decide (f ≤ n) && decide (n ≤ t)

/-- The first place of v, from number k on; -1, if there is none. -/
def idxF : List Int → Int → Int → Int
  | [], _, _ => -1
  | x :: r, v, k => if v = x then k else idxF r v (k + 1)
theorem idxF_mem : ∀ (l : List Int) (v k : Int), 0 ≤ k → (0 ≤ idxF l v k ↔ v ∈ l)
  | [], v, k, _ => by simp [idxF]
  | x :: r, v, k, hk => by
    simp only [idxF]
    split
    · rename_i e; subst e; simp [hk]
    · rename_i e
      rw [idxF_mem r v (k + 1) (by omega)]
      simp [e]
theorem idxF_drop {l : List Int} {v : Int} {k : Nat} (h : k < l.length) : idxF (l.drop k) v k = if v = l[k] then (k : Int) else idxF (l.drop (k + 1)) v ((k + 1 : Nat) : Int) := by
  rw [List.drop_eq_getElem_cons h]
  simp [idxF]
theorem idxF_lt : ∀ (l : List Int) (v k : Int), idxF l v k < k + l.length ∧ -1 ≤ idxF l v k ∨ idxF l v k = -1 ∨ k < 0
  | [], v, k => by simp [idxF]
  | x :: r, v, k => by
    simp only [idxF]
    split
    · simp; omega
    · rcases idxF_lt r v (k + 1) with h | h | h
      · simp; omega
      · exact .inr (.inl h)
      · omega

/-- Each of 0, 1, .., n - 1 is in a list of n: all of it is from 0 to n - 1. -/
theorem perm_range : ∀ (n : Nat) (l : List Int), l.length = n → (∀ i : Nat, i < n → (i : Int) ∈ l) → ∀ x, x ∈ l → 0 ≤ x ∧ x < n
  | 0, l, hl, _, x, hx => by
    have : l = [] := List.eq_nil_of_length_eq_zero hl
    subst this
    simp at hx
  | n + 1, l, hl, hm, x, hx => by
    have h1 := hm n (by omega)
    have h2 : (l.erase (n : Int)).length = n := by rw [List.length_erase_of_mem h1]; omega
    have h3 := perm_range n (l.erase (n : Int)) h2 (fun i hi => (List.mem_erase_of_ne (by omega)).2 (hm i (by omega)))
    by_cases e : x = n
    · omega
    · have := h3 x ((List.mem_erase_of_ne e).2 hx)
      omega

/-- A right truth. -/
structure Fit (ks : List KD) (ls : List LT) (ps : List Int) (bs : List BX) : Prop where
  n1 : 1 ≤ ps.length
  n8 : ps.length ≤ 8
  len : ps.length = bs.length
  k10 : ks.length ≤ 10
  l10 : ls.length ≤ 10
  k : ∀ (i : Nat) (h : i < ks.length), 0 ≤ ks[i].2 ∧ ks[i].2 ≤ 1048576
  l : ∀ (i : Nat) (h : i < ls.length), 0 ≤ ls[i].1 ∧ ls[i].1 < ks.length
  p : ∀ (i : Nat) (h : i < ps.length), 0 ≤ ps[i] ∧ ps[i] < ps.length
  b : ∀ (i : Nat) (h : i < bs.length), -1 ≤ bs[i].1 ∧ bs[i].1 < ls.length ∧ 0 ≤ bs[i].2.1 ∧ bs[i].2.1 ≤ 20000 ∧ (bs[i].1 = -1 → bs[i].2.1 = 0) ∧ 0 ≤ bs[i].2.2 ∧ bs[i].2.2 ≤ 1073741824

def SensesOk (m st er sl : Int) : Prop := 0 ≤ m ∧ m ≤ 1048576 ∧ 0 ≤ st ∧ st ≤ 1048576 ∧ 0 ≤ er ∧ er ≤ 1048576 ∧ 0 ≤ sl ∧ sl ≤ 1048576

/-- The weight of a unit. -/
def unitF (ks : List KD) (ls : List LT) (lot : Int) : Int := if lot < 0 then 0 else (ks.getD (ls.getD lot.toNat (0, 0, false)).1.toNat (⟨#[]⟩, 0)).2
theorem unit_bd {ks : List KD} {ls : List LT} {ps : List Int} {bs : List BX} (f : Fit ks ls ps bs) {lot : Int} (h : lot < ls.length) : 0 ≤ unitF ks ls lot ∧ unitF ks ls lot ≤ 1048576 := by
  unfold unitF
  split
  · omega
  · have hl : lot.toNat < ls.length := by omega
    have h1 := f.l lot.toNat hl
    have hk : ls[lot.toNat].1.toNat < ks.length := by omega
    have h2 := f.k _ hk
    simp only [List.getD, List.getElem?_eq_getElem hl, Option.getD_some, List.getElem?_eq_getElem hk]
    exact h2

/-- What is seen: the misses; whether it can be seen. -/
def agM (st id k : Int) (ids : List Int) : Int := if k = 0 then (if (ids.length : Int) - (if id ∈ ids then 1 else 0) > st then 0 else if id ∈ ids then 0 else 1) else 0
def agOk (st er sl id ct w k n : Int) (ids : List Int) : Bool :=
  if k = 0 then decide ((ids.length : Int) - (if id ∈ ids then 1 else 0) ≤ st)
  else if k = 1 then withinB w (n - er) (n + er)
  else if k = 2 then decide (n - sl ≤ ct)
  else if k = 3 then decide (n = ct)
  else if k = 5 then decide (n = id)
  else true
def canB (sl ct k n done : Int) : Bool := if k = 2 then withinB done 0 ct && withinB done (n - sl) (n + sl) else if k = 4 then decide (done = 0) || decide (done = 1) else decide (done = 0)

def okId (l : List Int) (n : Int) (i : Nat) : Prop := 0 ≤ l.getD i 0 ∧ l.getD i 0 ≤ n - 1 ∧ (0 < i → l.getD (i - 1) 0 < l.getD i 0)
open Classical in
noncomputable def ascB (l : List Int) (n : Int) : Bool := decide (∀ i, i < l.length → okId l n i)
noncomputable def rightS (n k a b m : Int) (ids : List Int) : Bool :=
  withinB a 0 (n - 1) && (decide (k = 0) || decide (ids.length = 0)) && (decide (k = 4) || decide (b = 0)) &&
  (if k = 0 then decide (m = 0) && ascB ids n else if k = 1 ∨ k = 2 ∨ k = 3 then withinB m 0 1099511627776 else if k = 4 then decide (m = 0) && withinB b (a + 1) (n - 1) else if k = 5 then withinB m 0 (n - 1) else false)

/-- With greater senses all of it can still be seen, with the same misses. -/
theorem ag_grows {st er sl st' er' sl' id ct w k n : Int} {ids : List Int} (h1 : st ≤ st') (h2 : er ≤ er') (h3 : sl ≤ sl') (h : agOk st er sl id ct w k n ids = true) : agOk st' er' sl' id ct w k n ids = true ∧ agM st id k ids = agM st' id k ids := by
  unfold agOk at h ⊢
  unfold agM
  by_cases k0 : k = 0
  · simp only [k0, if_true, decide_eq_true_eq] at h ⊢
    by_cases hm : id ∈ ids
    · simp only [hm, if_true] at h ⊢
      refine ⟨by omega, ?_⟩
      rw [if_neg (by omega), if_neg (by omega)]
    · simp only [hm, if_false] at h ⊢
      refine ⟨by omega, ?_⟩
      rw [if_neg (by omega), if_neg (by omega)]
  · simp only [k0, if_false] at h ⊢
    refine ⟨?_, trivial⟩
    by_cases k1 : k = 1
    · simp only [k1, if_true, withinB, Bool.and_eq_true, decide_eq_true_eq] at h ⊢
      omega
    · simp only [k1, if_false] at h ⊢
      by_cases k2 : k = 2
      · simp only [k2, if_true, decide_eq_true_eq] at h ⊢
        omega
      · simp only [k2, if_false] at h ⊢
        exact h
theorem can_grows {sl sl' ct k n done : Int} (h3 : sl ≤ sl') (h : canB sl ct k n done = true) : canB sl' ct k n done = true := by
  unfold canB at h ⊢
  by_cases k2 : k = 2
  · simp only [k2, if_true, withinB, Bool.and_eq_true, decide_eq_true_eq] at h ⊢
    omega
  · simp only [k2, if_false] at h ⊢
    exact h
end Go.Proofs.YtnpedigoacbocaaDoor
