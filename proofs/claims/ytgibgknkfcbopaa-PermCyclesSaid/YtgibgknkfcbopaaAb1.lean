/-
  A logic of values for the walk, first part: what an abstract value is, and when a value of the model, in a world, is one.
  An abstract heap holds the objects that a call may still write (boxes, slices of its own); all else is read as a tree of values.
-/
import Derived.WalkKit
namespace Go.Ab
open Go
set_option linter.unusedVariables false
set_option linter.unusedSimpArgs false

/-- Abstract values. 'ptr k off': the address of cell 'off' of object k. 'ep k i off sz': the address of cell 'off' of element i of object k, elements of 'sz' cells. 'pr cs off': the address of cell 'off' of the cells 'cs', that no longer change. 'sl k off len sz': a slice of 'len' elements of 'sz' cells each, from element 'off' of object k on. 'mp k': the map that is object k. 'row cs len sz': a slice over memory that no longer changes, its cells 'cs'. -/
inductive AV where
  | v (x : Value)
  | any
  | ptr (k off : Nat)
  | ep (k i off sz : Nat)
  | pr (cs : List AV) (off : Nat)
  | sl (k off len sz : Nat)
  | mp (k : Nat)
  | row (cs : List AV) (len sz : Nat)
  | agg (cs : List AV)
  | tup (vs : List AV)
  | clo (f : Fn) (first cap : List AV)
  | cond (b : Bool) (x : AV)
  | ifc (t : TypeId) (x : AV)

abbrev AV.i (n : Int) : AV := .v (.int .i64 n)
abbrev AV.b (b : Bool) : AV := .v (.bool b)
abbrev AV.nils : AV := .v (.slice none 0 0)

/-- Where the objects lie: block and first cell. -/
abbrev Pl := Nat → Option (Nat × Nat)

def room (w : World) (b n : Nat) : Prop := ∃ c e, w.heap[b]? = some (.cells c e (0, 0)) ∧ n ≤ c.size
/-- From cell o of block b on, these values. -/
def lies (w : World) (b o : Nat) (ys : List Value) : Prop := ∃ c e fz, w.heap[b]? = some (.cells c e fz) ∧ ∀ j y, ys[j]? = some y → c[o + j]? = some y

mutual
/-- 'y' is the abstract value, in the world w, where the objects lie as ρ says and the blocks of S no longer change. -/
def R (S : Nat → Prop) (w : World) : AV → Pl → Value → Prop
  | .v x, _, y => y = x
  | .any, _, _ => True
  | .ptr k off, ρ, y => ∃ b o, ρ k = some (b, o) ∧ y = .pointer (some ⟨b, o + off, none⟩)
  | .ep k i off sz, ρ, y => ∃ b o, ρ k = some (b, o) ∧ y = .pointer (some ⟨b, o + (i * sz + off), none⟩)
  | .pr cs off, _, y => ∃ b o ys, y = .pointer (some ⟨b, o + off, none⟩) ∧ S b ∧ lies w b o ys ∧ RL S w cs (fun _ => none) ys
  | .sl k off len sz, ρ, y => ∃ a cap, y = .slice a len cap ∧ cap ≤ maxLen ∧ ((len = 0 ∧ cap = 0) ∨ ∃ b o, ρ k = some (b, o) ∧ a = some ⟨b, o + off * sz, none⟩ ∧ len ≤ cap ∧ room w b (o + (off + cap) * sz))
  | .row cs len sz, _, y => ∃ a cap, y = .slice a len cap ∧ len ≤ cap ∧ (a = none → cap = 0) ∧ cap ≤ maxLen ∧ cs.length = len * sz ∧ (len = 0 ∨ ∃ b o ys, a = some ⟨b, o, none⟩ ∧ S b ∧ lies w b o ys ∧ RL S w cs (fun _ => none) ys)
  | .mp k, ρ, y => ∃ b o, ρ k = some (b, o) ∧ y = .map (some b)
  | .agg cs, ρ, y => ∃ ys, y = .agg ys ∧ RL S w cs ρ ys.toList
  | .tup cs, ρ, y => ∃ ys, y = .tuple ys ∧ RL S w cs ρ ys.toList
  | .clo f cs ds, ρ, y => ∃ ys zs, y = .func f ys zs ∧ RL S w cs ρ ys.toList ∧ RL S w ds ρ zs.toList
  | .cond b x, ρ, y => b = true → R S w x ρ y
  | .ifc t x, ρ, y => ∃ z, y = .iface t z ∧ R S w x ρ z
def RL (S : Nat → Prop) (w : World) : List AV → Pl → List Value → Prop
  | [], _, ys => ys = []
  | x :: xs, ρ, ys => ∃ y zs, ys = y :: zs ∧ R S w x ρ y ∧ RL S w xs ρ zs
end

/-- Blocks of a world only grow in number; those outside M are as they were; no row of cells changes its size. -/
structure Ext (M : Nat → Prop) (w w' : World) : Prop where
  os : w'.os = w.os
  tape : w'.tape = w.tape
  output : w'.output = w.output
  size : w.heap.size ≤ w'.heap.size
  same : ∀ b, b < w.heap.size → ¬ M b → w'.heap[b]? = w.heap[b]?
  shape : ∀ (b : Nat) (c : Array Value) (e : TypeId), w.heap[b]? = some (.cells c e (0, 0)) → ∃ c' : Array Value, w'.heap[b]? = some (.cells c' e (0, 0)) ∧ c'.size = c.size

theorem Ext.refl (M : Nat → Prop) (w : World) : Ext M w w := ⟨rfl, rfl, rfl, Nat.le_refl _, fun _ _ _ => rfl, fun _ c _ h => ⟨c, h, rfl⟩⟩
theorem Ext.trans {M N : Nat → Prop} {a b c : World} (h : Ext M a b) (k : Ext N b c) (hN : ∀ x, N x → x < a.heap.size → M x) : Ext M a c := by
  refine ⟨k.os.trans h.os, k.tape.trans h.tape, k.output.trans h.output, Nat.le_trans h.size k.size, fun x hx hM => ?_, fun x cs e hc => ?_⟩
  · rw [k.same x (Nat.lt_of_lt_of_le hx h.size) (fun hn => hM (hN x hn hx)), h.same x hx hM]
  · obtain ⟨c1, h1, h2⟩ := h.shape x cs e hc
    obtain ⟨c2, h3, h4⟩ := k.shape x c1 e h1
    exact ⟨c2, h3, h4.trans h2⟩
theorem Ext.mono {M N : Nat → Prop} {a b : World} (h : Ext M a b) (hN : ∀ x, x < a.heap.size → M x → N x) : Ext N a b :=
  ⟨h.os, h.tape, h.output, h.size, fun x hx hM => h.same x hx (fun hm => hM (hN x hx hm)), h.shape⟩
theorem Ext.room {M : Nat → Prop} {a b : World} (h : Ext M a b) {x n : Nat} (hr : room a x n) : room b x n := by
  obtain ⟨c, e, hc, hn⟩ := hr
  obtain ⟨c', h1, h2⟩ := h.shape x c e hc
  exact ⟨c', e, h1, by omega⟩
theorem Ext.drew {M : Nat → Prop} {a b : World} (h : Ext M a b) : Ext M a { b with drawn := b.drawn + 1 } := ⟨h.os, h.tape, h.output, h.size, h.same, h.shape⟩

theorem lies_same {w w' : World} {b o : Nat} {ys : List Value} (hb : w'.heap[b]? = w.heap[b]?) (h : lies w b o ys) : lies w' b o ys := by
  unfold lies at *; rw [hb]; exact h

/-- What a reading needs of a later world. -/
structure Later (ρ ρ' : Pl) (S S' : Nat → Prop) (w w' : World) : Prop where
  pl : ∀ k p, ρ k = some p → ρ' k = some p
  st : ∀ b, S b → S' b
  same : ∀ b, S b → w'.heap[b]? = w.heap[b]?
  room : ∀ k b o n, ρ k = some (b, o) → room w b n → room w' b n

mutual
theorem R_later {S S' : Nat → Prop} {w w' : World} (hS : ∀ b, S b → S' b) (hw : ∀ b, S b → w'.heap[b]? = w.heap[b]?) :
    ∀ (x : AV) (ρ ρ' : Pl) (y : Value), (∀ k p, ρ k = some p → ρ' k = some p) → (∀ k b o n, ρ k = some (b, o) → room w b n → room w' b n) → R S w x ρ y → R S' w' x ρ' y
  | .v x, ρ, ρ', y, _, _, h => by simpa [R] using h
  | .any, _, _, _, _, _, _ => by simp [R]
  | .ptr k off, ρ, ρ', y, hρ, _, h => by
    simp only [R] at *
    obtain ⟨b, o, h1, h2⟩ := h
    exact ⟨b, o, hρ _ _ h1, h2⟩
  | .mp k, ρ, ρ', y, hρ, _, h => by
    simp only [R] at *
    obtain ⟨b, o, h1, h2⟩ := h
    exact ⟨b, o, hρ _ _ h1, h2⟩
  | .ep k i off sz, ρ, ρ', y, hρ, _, h => by
    simp only [R] at *
    obtain ⟨b, o, h1, h2⟩ := h
    exact ⟨b, o, hρ _ _ h1, h2⟩
  | .pr cs off, _, _, y, _, _, h => by
    simp only [R] at *
    obtain ⟨b, o, ys, h1, h2, h3, h4⟩ := h
    exact ⟨b, o, ys, h1, hS _ h2, lies_same (hw _ h2) h3, RL_later hS hw cs _ _ _ (fun _ _ h => h) (fun _ _ _ _ h => by cases h) h4⟩
  | .sl k off len sz, ρ, ρ', y, hρ, hr, h => by
    simp only [R] at *
    obtain ⟨a, cap, h1, h6, h2⟩ := h
    refine ⟨a, cap, h1, h6, ?_⟩
    rcases h2 with h2 | ⟨b, o, h3, h4, h5, h7⟩
    · exact .inl h2
    · exact .inr ⟨b, o, hρ _ _ h3, h4, h5, hr _ _ _ _ h3 h7⟩
  | .row cs len sz, ρ, ρ', y, _, _, h => by
    simp only [R] at *
    obtain ⟨a, cap, h1, h2, h2n, h2c, h3, h4⟩ := h
    refine ⟨a, cap, h1, h2, h2n, h2c, h3, ?_⟩
    rcases h4 with h4 | ⟨b, o, ys, h5, h6, h7, h8⟩
    · exact .inl h4
    · exact .inr ⟨b, o, ys, h5, hS _ h6, lies_same (hw _ h6) h7, RL_later hS hw cs _ _ _ (fun _ _ h => h) (fun _ _ _ _ h => by cases h) h8⟩
  | .agg cs, ρ, ρ', y, hρ, hr, h => by
    simp only [R] at *
    obtain ⟨ys, h1, h2⟩ := h
    exact ⟨ys, h1, RL_later hS hw cs ρ ρ' _ hρ hr h2⟩
  | .tup cs, ρ, ρ', y, hρ, hr, h => by
    simp only [R] at *
    obtain ⟨ys, h1, h2⟩ := h
    exact ⟨ys, h1, RL_later hS hw cs ρ ρ' _ hρ hr h2⟩
  | .clo f cs ds, ρ, ρ', y, hρ, hr, h => by
    simp only [R] at *
    obtain ⟨ys, zs, h1, h2, h3⟩ := h
    exact ⟨ys, zs, h1, RL_later hS hw cs ρ ρ' _ hρ hr h2, RL_later hS hw ds ρ ρ' _ hρ hr h3⟩
  | .cond b x, ρ, ρ', y, hρ, hr, h => by
    simp only [R] at *
    exact fun hb => R_later hS hw x ρ ρ' y hρ hr (h hb)
  | .ifc t x, ρ, ρ', y, hρ, hr, h => by
    simp only [R] at *
    obtain ⟨z, h1, h2⟩ := h
    exact ⟨z, h1, R_later hS hw x ρ ρ' z hρ hr h2⟩
theorem RL_later {S S' : Nat → Prop} {w w' : World} (hS : ∀ b, S b → S' b) (hw : ∀ b, S b → w'.heap[b]? = w.heap[b]?) :
    ∀ (xs : List AV) (ρ ρ' : Pl) (ys : List Value), (∀ k p, ρ k = some p → ρ' k = some p) → (∀ k b o n, ρ k = some (b, o) → room w b n → room w' b n) → RL S w xs ρ ys → RL S' w' xs ρ' ys
  | [], _, _, _, _, _, h => by simpa [RL] using h
  | x :: xs, ρ, ρ', ys, hρ, hr, h => by
    simp only [RL] at *
    obtain ⟨y, zs, h1, h2, h3⟩ := h
    exact ⟨y, zs, h1, R_later hS hw x ρ ρ' y hρ hr h2, RL_later hS hw xs ρ ρ' zs hρ hr h3⟩
end

theorem R.later {ρ ρ' : Pl} {S S' : Nat → Prop} {w w' : World} (l : Later ρ ρ' S S' w w') {x : AV} {y : Value} (h : R S w x ρ y) : R S' w' x ρ' y :=
  R_later l.st l.same x ρ ρ' y l.pl l.room h
theorem RL.later {ρ ρ' : Pl} {S S' : Nat → Prop} {w w' : World} (l : Later ρ ρ' S S' w w') {x : List AV} {y : List Value} (h : RL S w x ρ y) : RL S' w' x ρ' y :=
  RL_later l.st l.same x ρ ρ' y l.pl l.room h

theorem RL_length {S : Nat → Prop} {w : World} {ρ : Pl} : ∀ {xs : List AV} {ys : List Value}, RL S w xs ρ ys → ys.length = xs.length
  | [], _, h => by simp only [RL] at h; simp [h]
  | x :: xs, _, h => by
    simp only [RL] at h
    obtain ⟨y, zs, rfl, _, h3⟩ := h
    simp [RL_length h3]
theorem RL_get {S : Nat → Prop} {w : World} {ρ : Pl} : ∀ {xs : List AV} {ys : List Value}, RL S w xs ρ ys → ∀ (j : Nat) (x : AV), xs[j]? = some x → ∃ y, ys[j]? = some y ∧ R S w x ρ y
  | [], _, _, j, x, hj => by simp at hj
  | x :: xs, _, h, j, u, hj => by
    simp only [RL] at h
    obtain ⟨y, zs, rfl, h2, h3⟩ := h
    cases j with
    | zero => simp at hj; subst hj; exact ⟨y, by simp, h2⟩
    | succ j => simpa using RL_get h3 j u (by simpa using hj)
theorem RL_of {S : Nat → Prop} {w : World} {ρ : Pl} : ∀ (xs : List AV) (ys : List Value), ys.length = xs.length → (∀ (j : Nat) x y, xs[j]? = some x → ys[j]? = some y → R S w x ρ y) → RL S w xs ρ ys
  | [], ys, hl, _ => by simp only [RL]; exact List.eq_nil_of_length_eq_zero hl
  | x :: xs, [], hl, _ => by simp at hl
  | x :: xs, y :: ys, hl, h => by
    simp only [RL]
    exact ⟨y, ys, rfl, h 0 x y (by simp) (by simp), RL_of xs ys (by simpa using hl) (fun j u v hu hv => h (j + 1) u v (by simpa using hu) (by simpa using hv))⟩
theorem RL_append {S : Nat → Prop} {w : World} {ρ : Pl} : ∀ {xs xs' : List AV} {ys ys' : List Value}, RL S w xs ρ ys → RL S w xs' ρ ys' → RL S w (xs ++ xs') ρ (ys ++ ys')
  | [], _, _, _, h, h' => by simp only [RL] at h; subst h; simpa using h'
  | x :: xs, _, _, _, h, h' => by
    simp only [RL] at h
    obtain ⟨y, zs, rfl, h2, h3⟩ := h
    simp only [List.cons_append, RL]
    exact ⟨y, _, rfl, h2, RL_append h3 h'⟩
theorem RL_drop {S : Nat → Prop} {w : World} {ρ : Pl} {xs : List AV} {ys : List Value} (h : RL S w xs ρ ys) (n : Nat) : RL S w (xs.drop n) ρ (ys.drop n) := by
  refine RL_of _ _ (by simp [RL_length h]) fun j x y hx hy => ?_
  rw [List.getElem?_drop] at hx hy
  obtain ⟨y', h1, h2⟩ := RL_get h _ _ hx
  rw [hy] at h1; cases h1; exact h2
theorem RL_take {S : Nat → Prop} {w : World} {ρ : Pl} {xs : List AV} {ys : List Value} (h : RL S w xs ρ ys) (n : Nat) : RL S w (xs.take n) ρ (ys.take n) := by
  refine RL_of _ _ (by simp [RL_length h]) fun j x y hx hy => ?_
  rw [List.getElem?_take] at hx hy
  split at hx
  · rename_i hlt; rw [if_pos hlt] at hy
    obtain ⟨y', h1, h2⟩ := RL_get h _ _ hx
    rw [hy] at h1; cases h1; exact h2
  · cases hx
theorem RL_set {S : Nat → Prop} {w : World} {ρ : Pl} {xs : List AV} {ys : List Value} (h : RL S w xs ρ ys) (n : Nat) {x : AV} {y : Value} (hx : R S w x ρ y) : RL S w (xs.set n x) ρ (ys.set n y) := by
  refine RL_of _ _ (by simp [RL_length h]) fun j u v hu hv => ?_
  rw [List.getElem?_set] at hu hv
  by_cases hn : n = j
  · subst hn
    rw [if_pos rfl] at hu hv
    split at hu
    · rename_i hlt
      rw [if_pos (by rw [RL_length h]; exact hlt)] at hv
      cases hu; cases hv; exact hx
    · cases hu
  · rw [if_neg hn] at hu hv
    obtain ⟨y', h1, h2⟩ := RL_get h _ _ hu
    rw [hv] at h1; cases h1; exact h2

end Go.Ab
