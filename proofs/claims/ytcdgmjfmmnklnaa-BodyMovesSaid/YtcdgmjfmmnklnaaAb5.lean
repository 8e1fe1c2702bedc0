/-
  A logic of values for the walk, texts 1, 2, 3, 4, 5.
-/
import Derived.WalkKit
import Derived.TacticsIn
import Derived.OrdersIn

/-! A logic of values for the walk, first part: what an abstract value is, and when a value of the model, in a world, is one.
  An abstract heap holds the objects that a call may still write (boxes, slices of its own); all else is read as a tree of values. -/
namespace Go.Ab
open Go
set_option linter.unusedVariables false
set_option linter.unusedSimpArgs false

inductive AV where
  | v (x : Value)
  | any
  | ptr (k off : Nat)
  | ep (k i off sz : Nat)
  | pr (cs : List AV) (off : Nat)
  | sl (k off len sz : Nat)
  | mp (k : Nat)
  | row (cs : List AV) (len sz : Nat)
  | mrow (ks : List Value) (vs : List AV)
  | agg (cs : List AV)
  | tup (vs : List AV)
  | clo (f : Fn) (first cap : List AV)
  | cond (b : Bool) (x : AV)
  | ifc (t : TypeId) (x : AV)

abbrev AV.i (n : Int) : AV := .v (.int .i64 n)
abbrev AV.b (b : Bool) : AV := .v (.bool b)
abbrev AV.nils : AV := .v (.slice none 0 0)

abbrev Pl := Nat → Option (Nat × Nat)

def room (w : World) (b n : Nat) : Prop := ∃ c e fz, w.heap[b]? = some (.cells c e fz) ∧ n ≤ c.size
def unfz (w : World) (p : Option (Nat × Nat)) : Prop := ∀ b o, p = some (b, o) → ∃ c e, w.heap[b]? = some (.cells c e (0, 0))
def lies (w : World) (b o : Nat) (ys : List Value) : Prop := ∃ c e fz, w.heap[b]? = some (.cells c e fz) ∧ ∀ j y, ys[j]? = some y → c[o + j]? = some y

mutual
def R (S : Nat → Prop) (w : World) : AV → Pl → Value → Prop
  | .v x, _, y => y = x
  | .any, _, _ => True
  | .ptr k off, ρ, y => ∃ b o, ρ k = some (b, o) ∧ y = .pointer (some ⟨b, o + off, none⟩)
  | .ep k i off sz, ρ, y => ∃ b o, ρ k = some (b, o) ∧ y = .pointer (some ⟨b, o + (i * sz + off), none⟩)
  | .pr cs off, _, y => ∃ b o ys, y = .pointer (some ⟨b, o + off, none⟩) ∧ S b ∧ lies w b o ys ∧ RL S w cs (fun _ => none) ys
  | .sl k off len sz, ρ, y => ∃ a cap, y = .slice a len cap ∧ cap ≤ maxLen ∧ ((len = 0 ∧ cap = 0) ∨ ∃ b o, ρ k = some (b, o) ∧ a = some ⟨b, o + off * sz, none⟩ ∧ len ≤ cap ∧ room w b (o + (off + cap) * sz))
  | .row cs len sz, _, y => ∃ a cap, y = .slice a len cap ∧ len ≤ cap ∧ (a = none → cap = 0) ∧ cap ≤ maxLen ∧ cs.length = len * sz ∧ (len = 0 ∨ ∃ b o ys, a = some ⟨b, o, none⟩ ∧ S b ∧ lies w b o ys ∧ RL S w cs (fun _ => none) ys)
  | .mp k, ρ, y => ∃ b o, ρ k = some (b, o) ∧ y = .map (some b)
  | .mrow ks vs, _, y => ∃ b l ck, y = .map (some b) ∧ S b ∧ w.heap[b]? = some (.map l ck) ∧ l.toList.map (·.key) = ks ∧ RL S w vs (fun _ => none) (l.toList.map (·.val))
  | .agg cs, ρ, y => ∃ ys, y = .agg ys ∧ RL S w cs ρ ys.toList
  | .tup cs, ρ, y => ∃ ys, y = .tuple ys ∧ RL S w cs ρ ys.toList
  | .clo f cs ds, ρ, y => ∃ ys zs, y = .func f ys zs ∧ RL S w cs ρ ys.toList ∧ RL S w ds ρ zs.toList
  | .cond b x, ρ, y => b = true → R S w x ρ y
  | .ifc t x, ρ, y => ∃ z, y = .iface t z ∧ R S w x ρ z
def RL (S : Nat → Prop) (w : World) : List AV → Pl → List Value → Prop
  | [], _, ys => ys = []
  | x :: xs, ρ, ys => ∃ y zs, ys = y :: zs ∧ R S w x ρ y ∧ RL S w xs ρ zs
end

structure Ext (M : Nat → Prop) (w w' : World) : Prop where
  os : w'.os = w.os
  tape : w'.tape = w.tape
  output : w'.output = w.output
  size : w.heap.size ≤ w'.heap.size
  same : ∀ b, b < w.heap.size → ¬ M b → w'.heap[b]? = w.heap[b]?
  shape : ∀ (b : Nat) (c : Array Value) (e : TypeId) (fz : Nat × Nat), w.heap[b]? = some (.cells c e fz) → ∃ (c' : Array Value) (fz' : Nat × Nat), w'.heap[b]? = some (.cells c' e fz') ∧ c'.size = c.size

theorem Ext.refl (M : Nat → Prop) (w : World) : Ext M w w := ⟨rfl, rfl, rfl, Nat.le_refl _, fun _ _ _ => rfl, fun _ c _ fz h => ⟨c, fz, h, rfl⟩⟩
theorem Ext.trans {M N : Nat → Prop} {a b c : World} (h : Ext M a b) (k : Ext N b c) (hN : ∀ x, N x → x < a.heap.size → M x) : Ext M a c := by
  refine ⟨k.os.trans h.os, k.tape.trans h.tape, k.output.trans h.output, Nat.le_trans h.size k.size, fun x hx hM => ?_, fun x cs e fz hc => ?_⟩
  · rw [k.same x (Nat.lt_of_lt_of_le hx h.size) (fun hn => hM (hN x hn hx)), h.same x hx hM]
  · obtain ⟨c1, f1, h1, h2⟩ := h.shape x cs e fz hc
    obtain ⟨c2, f2, h3, h4⟩ := k.shape x c1 e f1 h1
    exact ⟨c2, f2, h3, h4.trans h2⟩
theorem Ext.mono {M N : Nat → Prop} {a b : World} (h : Ext M a b) (hN : ∀ x, x < a.heap.size → M x → N x) : Ext N a b :=
  ⟨h.os, h.tape, h.output, h.size, fun x hx hM => h.same x hx (fun hm => hM (hN x hx hm)), h.shape⟩
theorem Ext.room {M : Nat → Prop} {a b : World} (h : Ext M a b) {x n : Nat} (hr : room a x n) : room b x n := by
  obtain ⟨c, e, fz, hc, hn⟩ := hr
  obtain ⟨c', fz', h1, h2⟩ := h.shape x c e fz hc
  exact ⟨c', e, fz', h1, by omega⟩
theorem Ext.drew {M : Nat → Prop} {a b : World} (h : Ext M a b) : Ext M a { b with drawn := b.drawn + 1 } := ⟨h.os, h.tape, h.output, h.size, h.same, h.shape⟩

theorem lies_same {w w' : World} {b o : Nat} {ys : List Value} (hb : w'.heap[b]? = w.heap[b]?) (h : lies w b o ys) : lies w' b o ys := by
  unfold lies at *; rw [hb]; exact h

structure Later (ρ ρ' : Pl) (S S' : Nat → Prop) (w w' : World) : Prop where
  pl : ∀ k p, ρ k = some p → ρ' k = some p
  st : ∀ b, S b → S' b
  same : ∀ b, S b → w'.heap[b]? = w.heap[b]?
  room : ∀ k b o n, ρ k = some (b, o) → room w b n → room w' b n

mutual
theorem R_later {S S' : Nat → Prop} {w w' : World} (hS : ∀ b, S b → S' b) (hw : ∀ b, S b → w'.heap[b]? = w.heap[b]?) :
    ∀ (x : AV) (ρ ρ' : Pl) (y : Value), (∀ k p, ρ k = some p → ρ' k = some p) → (∀ k b o n, ρ k = some (b, o) → room w b n → room w' b n) → R S w x ρ y → R S' w' x ρ' y
  | .v x, ρ, ρ', y, _, _, h => by simpa [R] using h
  | .any, _, _, _, _, _, _ => by simp [R]
  | .ptr k off, ρ, ρ', y, hρ, _, h => by
    simp only [R] at *
    obtain ⟨b, o, h1, h2⟩ := h
    exact ⟨b, o, hρ _ _ h1, h2⟩
  | .mp k, ρ, ρ', y, hρ, _, h => by
    simp only [R] at *
    obtain ⟨b, o, h1, h2⟩ := h
    exact ⟨b, o, hρ _ _ h1, h2⟩
  | .ep k i off sz, ρ, ρ', y, hρ, _, h => by
    simp only [R] at *
    obtain ⟨b, o, h1, h2⟩ := h
    exact ⟨b, o, hρ _ _ h1, h2⟩
  | .pr cs off, _, _, y, _, _, h => by
    simp only [R] at *
    obtain ⟨b, o, ys, h1, h2, h3, h4⟩ := h
    exact ⟨b, o, ys, h1, hS _ h2, lies_same (hw _ h2) h3, RL_later hS hw cs _ _ _ (fun _ _ h => h) (fun _ _ _ _ h => by cases h) h4⟩
  | .sl k off len sz, ρ, ρ', y, hρ, hr, h => by
    simp only [R] at *
    obtain ⟨a, cap, h1, h6, h2⟩ := h
    refine ⟨a, cap, h1, h6, ?_⟩
    rcases h2 with h2 | ⟨b, o, h3, h4, h5, h7⟩
    · exact .inl h2
    · exact .inr ⟨b, o, hρ _ _ h3, h4, h5, hr _ _ _ _ h3 h7⟩
  | .mrow ks vs, _, _, y, _, _, h => by
    simp only [R] at *
    obtain ⟨b, l, ck, h1, h2, h3, h4, h5⟩ := h
    exact ⟨b, l, ck, h1, hS _ h2, by rw [hw _ h2]; exact h3, h4, RL_later hS hw vs _ _ _ (fun _ _ h => h) (fun _ _ _ _ h => by cases h) h5⟩
  | .row cs len sz, ρ, ρ', y, _, _, h => by
    simp only [R] at *
    obtain ⟨a, cap, h1, h2, h2n, h2c, h3, h4⟩ := h
    refine ⟨a, cap, h1, h2, h2n, h2c, h3, ?_⟩
    rcases h4 with h4 | ⟨b, o, ys, h5, h6, h7, h8⟩
    · exact .inl h4
    · exact .inr ⟨b, o, ys, h5, hS _ h6, lies_same (hw _ h6) h7, RL_later hS hw cs _ _ _ (fun _ _ h => h) (fun _ _ _ _ h => by cases h) h8⟩
  | .agg cs, ρ, ρ', y, hρ, hr, h => by
    simp only [R] at *
    obtain ⟨ys, h1, h2⟩ := h
    exact ⟨ys, h1, RL_later hS hw cs ρ ρ' _ hρ hr h2⟩
  | .tup cs, ρ, ρ', y, hρ, hr, h => by
    simp only [R] at *
    obtain ⟨ys, h1, h2⟩ := h
    exact ⟨ys, h1, RL_later hS hw cs ρ ρ' _ hρ hr h2⟩
  | .clo f cs ds, ρ, ρ', y, hρ, hr, h => by
    simp only [R] at *
    obtain ⟨ys, zs, h1, h2, h3⟩ := h
    exact ⟨ys, zs, h1, RL_later hS hw cs ρ ρ' _ hρ hr h2, RL_later hS hw ds ρ ρ' _ hρ hr h3⟩
  | .cond b x, ρ, ρ', y, hρ, hr, h => by
    simp only [R] at *
    exact fun hb => R_later hS hw x ρ ρ' y hρ hr (h hb)
  | .ifc t x, ρ, ρ', y, hρ, hr, h => by
    simp only [R] at *
    obtain ⟨z, h1, h2⟩ := h
    exact ⟨z, h1, R_later hS hw x ρ ρ' z hρ hr h2⟩
theorem RL_later {S S' : Nat → Prop} {w w' : World} (hS : ∀ b, S b → S' b) (hw : ∀ b, S b → w'.heap[b]? = w.heap[b]?) :
    ∀ (xs : List AV) (ρ ρ' : Pl) (ys : List Value), (∀ k p, ρ k = some p → ρ' k = some p) → (∀ k b o n, ρ k = some (b, o) → room w b n → room w' b n) → RL S w xs ρ ys → RL S' w' xs ρ' ys
  | [], _, _, _, _, _, h => by simpa [RL] using h
  | x :: xs, ρ, ρ', ys, hρ, hr, h => by
    simp only [RL] at *
    obtain ⟨y, zs, h1, h2, h3⟩ := h
    exact ⟨y, zs, h1, R_later hS hw x ρ ρ' y hρ hr h2, RL_later hS hw xs ρ ρ' zs hρ hr h3⟩
end

theorem R.later {ρ ρ' : Pl} {S S' : Nat → Prop} {w w' : World} (l : Later ρ ρ' S S' w w') {x : AV} {y : Value} (h : R S w x ρ y) : R S' w' x ρ' y :=
  R_later l.st l.same x ρ ρ' y l.pl l.room h
theorem RL.later {ρ ρ' : Pl} {S S' : Nat → Prop} {w w' : World} (l : Later ρ ρ' S S' w w') {x : List AV} {y : List Value} (h : RL S w x ρ y) : RL S' w' x ρ' y :=
  RL_later l.st l.same x ρ ρ' y l.pl l.room h

theorem RL_length {S : Nat → Prop} {w : World} {ρ : Pl} : ∀ {xs : List AV} {ys : List Value}, RL S w xs ρ ys → ys.length = xs.length
  | [], _, h => by simp only [RL] at h; simp [h]
  | x :: xs, _, h => by
    simp only [RL] at h
    obtain ⟨y, zs, rfl, _, h3⟩ := h
    simp [RL_length h3]
theorem RL_get {S : Nat → Prop} {w : World} {ρ : Pl} : ∀ {xs : List AV} {ys : List Value}, RL S w xs ρ ys → ∀ (j : Nat) (x : AV), xs[j]? = some x → ∃ y, ys[j]? = some y ∧ R S w x ρ y
  | [], _, _, j, x, hj => by simp at hj
  | x :: xs, _, h, j, u, hj => by
    simp only [RL] at h
    obtain ⟨y, zs, rfl, h2, h3⟩ := h
    cases j with
    | zero => simp at hj; subst hj; exact ⟨y, by simp, h2⟩
    | succ j => simpa using RL_get h3 j u (by simpa using hj)
theorem RL_of {S : Nat → Prop} {w : World} {ρ : Pl} : ∀ (xs : List AV) (ys : List Value), ys.length = xs.length → (∀ (j : Nat) x y, xs[j]? = some x → ys[j]? = some y → R S w x ρ y) → RL S w xs ρ ys
  | [], ys, hl, _ => by simp only [RL]; exact List.eq_nil_of_length_eq_zero hl
  | x :: xs, [], hl, _ => by simp at hl
  | x :: xs, y :: ys, hl, h => by
    simp only [RL]
    exact ⟨y, ys, rfl, h 0 x y (by simp) (by simp), RL_of xs ys (by simpa using hl) (fun j u v hu hv => h (j + 1) u v (by simpa using hu) (by simpa using hv))⟩
theorem RL_append {S : Nat → Prop} {w : World} {ρ : Pl} : ∀ {xs xs' : List AV} {ys ys' : List Value}, RL S w xs ρ ys → RL S w xs' ρ ys' → RL S w (xs ++ xs') ρ (ys ++ ys')
  | [], _, _, _, h, h' => by simp only [RL] at h; subst h; simpa using h'
  | x :: xs, _, _, _, h, h' => by
    simp only [RL] at h
    obtain ⟨y, zs, rfl, h2, h3⟩ := h
    simp only [List.cons_append, RL]
    exact ⟨y, _, rfl, h2, RL_append h3 h'⟩
theorem RL_drop {S : Nat → Prop} {w : World} {ρ : Pl} {xs : List AV} {ys : List Value} (h : RL S w xs ρ ys) (n : Nat) : RL S w (xs.drop n) ρ (ys.drop n) := by
  refine RL_of _ _ (by simp [RL_length h]) fun j x y hx hy => ?_
  rw [List.getElem?_drop] at hx hy
  obtain ⟨y', h1, h2⟩ := RL_get h _ _ hx
  rw [hy] at h1; cases h1; exact h2
theorem RL_take {S : Nat → Prop} {w : World} {ρ : Pl} {xs : List AV} {ys : List Value} (h : RL S w xs ρ ys) (n : Nat) : RL S w (xs.take n) ρ (ys.take n) := by
  refine RL_of _ _ (by simp [RL_length h]) fun j x y hx hy => ?_
  rw [List.getElem?_take] at hx hy
  split at hx
  · rename_i hlt; rw [if_pos hlt] at hy
    obtain ⟨y', h1, h2⟩ := RL_get h _ _ hx
    rw [hy] at h1; cases h1; exact h2
  · cases hx
theorem RL_set {S : Nat → Prop} {w : World} {ρ : Pl} {xs : List AV} {ys : List Value} (h : RL S w xs ρ ys) (n : Nat) {x : AV} {y : Value} (hx : R S w x ρ y) : RL S w (xs.set n x) ρ (ys.set n y) := by
  refine RL_of _ _ (by simp [RL_length h]) fun j u v hu hv => ?_
  rw [List.getElem?_set] at hu hv
  by_cases hn : n = j
  · subst hn
    rw [if_pos rfl] at hu hv
    split at hu
    · rename_i hlt
      rw [if_pos (by rw [RL_length h]; exact hlt)] at hv
      cases hu; cases hv; exact hx
    · cases hu
  · rw [if_neg hn] at hu hv
    obtain ⟨y', h1, h2⟩ := RL_get h _ _ hu
    rw [hv] at h1; cases h1; exact h2

end Go.Ab

/-! A logic of values for the walk, second part: abstract heaps, frames, what is shown of an operation, of code and of a call. -/
namespace Go.Ab
open Go
set_option linter.unusedVariables false
set_option linter.unusedSimpArgs false

inductive AB where
  | gone
  | cells (cs : List AV)
  | arr (es : List (List AV)) (sz : Nat)
  | mapO (ks : List Value) (vs : List AV)
  | var (t : TypeId) (cs : List AV)
  | buf (e : TypeId) (l : List UInt8)
  | mapB (ks : List Value) (vs : List AV) (bs : List Nat) (ck : Nat)
  | iter (km : Nat) (since : Nat) (seen : List Nat) (c0 : Nat)
  | lit (es : List (List AV)) (sz : Nat)

abbrev Env := List (Nat × AV)
abbrev Hp := List AB
abbrev AV.rowE (es : List (List AV)) (sz : Nat) : AV := .row es.flatten es.length sz

def look : Env → Nat → Option AV
  | [], _ => none
  | (k, x) :: r, t => match Nat.beq k t with
    | true => some x
    | false => look r t

def ev (env : Env) : Operand → Option AV
  | .tmp t => look env t
  | .const v => some (.v v)
  | .func f => some (.clo (.func f) [] [])
  | .global _ => none

def putd (d : Option Nat) (x : AV) (env : Env) : Env := match d with
  | some t => (t, x) :: env
  | none => env

def holds (w : World) (b o : Nat) (ys : List Value) : Prop := ∃ c e, w.heap[b]? = some (.cells c e (0, 0)) ∧ ∀ j y, ys[j]? = some y → c[o + j]? = some y
theorem holds.lies {w : World} {b o : Nat} {ys : List Value} (h : holds w b o ys) : lies w b o ys := by
  obtain ⟨c, e, h1, h2⟩ := h; exact ⟨c, e, _, h1, h2⟩

def Stamps (l : Array MapEntry) (ck : Nat) : Prop := (l.toList.map (·.born)).Nodup ∧ ∀ e, e ∈ l.toList → e.born < ck
def walkO : Obj → Bool
  | .map .. => true
  | .mapIter .. => true
  | _ => false
def RB (S : Nat → Prop) (w : World) (ρ : Pl) (p : Option (Nat × Nat)) : AB → Prop
  | .gone => True
  | .cells cs => ∃ b o ys, p = some (b, o) ∧ holds w b o ys ∧ RL S w cs ρ ys
  | .mapO ks vs => ∃ b o l ck, p = some (b, o) ∧ w.heap[b]? = some (.map l ck) ∧ (l.toList.map (·.key) = ks ∧ Stamps l ck) ∧ RL S w vs ρ (l.toList.map (·.val))
  | .mapB ks vs bs ck => ∃ b o l, p = some (b, o) ∧ w.heap[b]? = some (.map l ck) ∧ (l.toList.map (·.key) = ks ∧ Stamps l ck ∧ l.toList.map (·.born) = bs) ∧ RL S w vs ρ (l.toList.map (·.val))
  | .iter km since seen c0 => ∃ b, p = some (b, 0) ∧ ∃ m, ρ km = some m ∧ w.heap[b]? = some (.mapIter (some m.1) since seen.toArray c0)
  | .var t cs => ∃ b c, p = some (b, 0) ∧ w.heap[b]? = some (.cells c t (0, 0)) ∧ RL S w cs ρ c.toList
  | .buf e l => (l = [] ∧ p = none) ∨ ∃ b c, p = some (b, 0) ∧ w.heap[b]? = some (.cells c e (0, 0)) ∧ ∀ (j : Nat) (x : UInt8), l[j]? = some x → c[j]? = some (.int .u8 x.toNat)
  | .arr es sz => (∀ e, e ∈ es → e.length = sz) ∧ 0 < sz ∧ ((es = [] ∧ unfz w p) ∨ ∃ b o ys, p = some (b, o) ∧ holds w b o ys ∧ RL S w es.flatten ρ ys)
  | .lit es sz => (∀ e, e ∈ es → e.length = sz) ∧ 0 < sz ∧ ∃ b ys, p = some (b, 0) ∧ (∃ c e, w.heap[b]? = some (.cells c e (0, 0)) ∧ c.size = es.length * sz ∧ ∀ (j : Nat) y, ys[j]? = some y → c[0 + j]? = some y) ∧ RL S w es.flatten ρ ys

theorem RB.later {ρ ρ' : Pl} {S S' : Nat → Prop} {w w' : World} (l : Later ρ ρ' S S' w w') {p : Option (Nat × Nat)} (hp : ∀ b o, p = some (b, o) → w'.heap[b]? = w.heap[b]?) : ∀ {x : AB}, RB S w ρ p x → RB S' w' ρ' p x
  | .gone, _ => trivial
  | .cells cs, h => by
    obtain ⟨b, o, ys, h1, ⟨c, e, h2, h3⟩, h4⟩ := h
    exact ⟨b, o, ys, h1, ⟨c, e, by rw [hp b o h1]; exact h2, h3⟩, h4.later l⟩
  | .mapO ks vs, h => by
    obtain ⟨b, o, m, ck, h1, h2, h3, h4⟩ := h
    exact ⟨b, o, m, ck, h1, by rw [hp b o h1]; exact h2, h3, h4.later l⟩
  | .mapB ks vs bs ck, h => by
    obtain ⟨b, o, m, h1, h2, h3, h4⟩ := h
    exact ⟨b, o, m, h1, by rw [hp b o h1]; exact h2, h3, h4.later l⟩
  | .iter km since seen c0, h => by
    obtain ⟨b, h1, m, h2, h3⟩ := h
    exact ⟨b, h1, m, l.pl _ _ h2, by rw [hp b 0 h1]; exact h3⟩
  | .var t cs, h => by
    obtain ⟨b, c, h1, h2, h3⟩ := h
    exact ⟨b, c, h1, by rw [hp b 0 h1]; exact h2, h3.later l⟩
  | .buf e _, h => by
    rcases h with h | ⟨b, c, h1, h2, h3⟩
    · exact .inl h
    · exact .inr ⟨b, c, h1, by rw [hp b 0 h1]; exact h2, h3⟩
  | .arr es sz, h => by
    obtain ⟨h0, h00, h⟩ := h
    refine ⟨h0, h00, ?_⟩
    rcases h with h | ⟨b, o, ys, h1, ⟨c, e, h2, h3⟩, h4⟩
    · exact .inl ⟨h.1, fun b o e => by rw [hp b o e]; exact h.2 b o e⟩
    · exact .inr ⟨b, o, ys, h1, ⟨c, e, by rw [hp b o h1]; exact h2, h3⟩, h4.later l⟩
  | .lit es sz, h => by
    obtain ⟨h0, h00, b, ys, h1, ⟨c, e, h2, h3⟩, h4⟩ := h
    exact ⟨h0, h00, b, ys, h1, ⟨c, e, by rw [hp b 0 h1]; exact h2, h3⟩, h4.later l⟩

structure Ctx where
  w0 : World
  M : Nat → Prop
  new : ∀ b, w0.heap.size ≤ b → M b
  S0 : Nat → Prop
  ρ0 : Pl
  m : Nat
  lo : Nat
  lole : lo ≤ w0.heap.size
  r : Option Nat
  nb : Nat → Prop := fun _ => True

def globTab : List (Nat × List AV) := []
def GlobOk (S : Nat → Prop) (w : World) : Prop := ∀ g cs, (g, cs) ∈ globTab → S g ∧ ∃ ys t fz, w.heap[g]? = some (.cells ys t fz) ∧ RL S w cs (fun _ => none) ys.toList
theorem GlobOk.later {ρ ρ' : Pl} {S S' : Nat → Prop} {w w' : World} (l : Later ρ ρ' S S' w w') (h : GlobOk S w) : GlobOk S' w' := fun g cs hg => by
  obtain ⟨h1, ys, t, fz, h2, h3⟩ := h g cs hg
  exact ⟨l.st _ h1, ys, t, fz, by rw [l.same _ h1]; exact h2, RL_later l.st l.same cs _ _ _ (fun _ _ h => h) (fun _ _ _ _ h => by cases h) h3⟩
theorem GlobOk.none {S : Nat → Prop} {w : World} (h : globTab = []) : GlobOk S w := fun g cs hg => by rw [h] at hg; cases hg
theorem GlobOk.st {S S' : Nat → Prop} {w : World} (hS : ∀ b, S b → S' b) (h : GlobOk S w) : GlobOk S' w := fun g cs hg => by
  obtain ⟨h1, ys, t, fz, h2, h3⟩ := h g cs hg
  exact ⟨hS _ h1, ys, t, fz, h2, RL_later hS (fun _ _ => rfl) cs _ _ _ (fun _ _ h => h) (fun _ _ _ _ h => by cases h) h3⟩

structure HS (c : Ctx) (ρ : Pl) (S : Nat → Prop) (h : Hp) (w : World) : Prop where
  dom : ∀ k, h.length ≤ k → ρ k = none
  rng : ∀ k p, ρ k = some p → p.1 < w.heap.size
  blk : ∀ (k : Nat) b, h[k]? = some b → RB S w ρ (ρ k) b
  live : ∀ (k : Nat) b p, h[k]? = some b → b ≠ .gone → ρ k = some p → c.M p.1 ∧ ¬ S p.1
  inj : ∀ (k k' : Nat) b b' p p', h[k]? = some b → h[k']? = some b' → b ≠ .gone → b' ≠ .gone → ρ k = some p → ρ k' = some p' → p.1 = p'.1 → k = k'
  stab : ∀ b, S b → b < w.heap.size
  ext : Ext c.M c.w0 w
  st0 : ∀ b, c.S0 b → S b
  st1 : ∀ b, S b → c.S0 b ∨ c.M b
  mle : c.m ≤ h.length
  keep : ∀ k, k < c.m → ρ k = c.ρ0 k
  glob : GlobOk S w

def mark (b : Nat) : Deferred := { target := .collected b, args := #[] }
def Marks (c : Ctx) (S : Nat → Prop) (l : List Deferred) (w : World) : Prop :=
  (∃ D : List Nat, l = D.map mark ∧ D.Nodup ∧ ∀ b, b ∈ D → S b ∧ w.heap[b]? = some (.deferred (some [])) ∧ c.lo ≤ b) ∧
  ∀ q, c.r = some q → S q ∧ ∃ rec, w.heap[q]? = some (.loop rec)
theorem Marks.nil {c : Ctx} (hr : c.r = none) (S : Nat → Prop) (w : World) : Marks c S [] w := ⟨⟨[], rfl, List.nodup_nil, fun _ h => by cases h⟩, fun q hq => by rw [hr] at hq; cases hq⟩
theorem Marks.later {c : Ctx} {ρ ρ' : Pl} {S S' : Nat → Prop} {l : List Deferred} {w w' : World} (m : Marks c S l w) (k : Later ρ ρ' S S' w w') : Marks c S' l w' := by
  obtain ⟨⟨D, h1, h2, h3⟩, h4⟩ := m
  refine ⟨⟨D, h1, h2, fun b hb => ⟨k.st b (h3 b hb).1, by rw [k.same b (h3 b hb).1]; exact (h3 b hb).2.1, (h3 b hb).2.2⟩⟩, fun q hq => ?_⟩
  obtain ⟨h5, rec, h6⟩ := h4 q hq
  exact ⟨k.st q h5, rec, by rw [k.same q h5]; exact h6⟩
theorem Marks.st {c : Ctx} {S S' : Nat → Prop} {l : List Deferred} {w : World} (m : Marks c S l w) (hS : ∀ b, S b → S' b) : Marks c S' l w := by
  obtain ⟨⟨D, h1, h2, h3⟩, h4⟩ := m
  exact ⟨⟨D, h1, h2, fun b hb => ⟨hS b (h3 b hb).1, (h3 b hb).2⟩⟩, fun q hq => ⟨hS q (h4 q hq).1, (h4 q hq).2⟩⟩

def rd (r : Option Nat) : Fence := { Fence.wide with round := r }
theorem rd_calls {r : Option Nat} {n : Nat} {P : Program} {f : FuncId} {args : Array Value} {w : World} {R : Ending → World → Prop} (h : Calls P f args w R) : CallsIn (rd r) n P f args w R :=
  (callsIn_wide (n := n)).2 h
theorem rd_rows {r : Option Nat} {n : Nat} {P : Program} {row : String} {args : Array Value} {w : World} {R : Value → World → Prop} (h : Rows P row args w R) : RowsIn (rd r) n P row args w R :=
  fun c cs _ => let ⟨v, w', r, s⟩ := h c cs; ⟨v, w', r, stepsIn_wide.2 s⟩
def noDef1 (o : Oper) : Bool := match o.op with
  | .defer _ => false
  | _ => true
def noDef : List Oper → Bool
  | [] => true
  | o :: l => noDef1 o && noDef l
theorem noDef1_sem {o : Oper} (h : noDef1 o = true) (r : Option Nat) (ρ : Operand → Value) : o.semAt r ρ = execOp ρ o :=
  Oper.semAt_eq r ρ o fun c e => by unfold noDef1 at h; rw [e] at h; cases h
theorem noDef_get : ∀ {l : List Oper}, noDef l = true → ∀ {i : Nat} {o : Oper}, l[i]? = some o → noDef1 o = true
  | [], _, i, o, ho => by simp at ho
  | o' :: l, h, i, o, ho => by
    simp only [noDef, Bool.and_eq_true] at h
    cases i with
    | zero => simp at ho; subst ho; exact h.1
    | succ i => exact noDef_get h.2 (by simpa using ho)
theorem op_in {P : Program} {o : Oper} {a : Act} {w : World} {K : Act → World → Prop} {Q : Exit → Act → World → Prop} {r : Option Nat} (hd : noDef1 o = true) (h : o.wp P a w K Q) : o.wpIn (rd r) 0 P a w K Q := by
  refine ⟨fun _ _ => trivial, ?_⟩
  have e : (rd r).round = r := rfl
  rw [noDef1_sem hd]
  unfold Oper.wp at h
  generalize (execOp a.eval o).run P w = x at h ⊢
  cases x with
  | ok x w' =>
    cases x <;> simp only [Oper.upon, Oper.uponIn] at h ⊢ <;>
      first
        | exact h
        | exact ⟨fun h => (by cases h), rd_calls h⟩
        | exact ⟨fun h => (by cases h), rd_rows h⟩
        | exact h.elim
  | halt x w' => cases x <;> simp only [Oper.upon, Oper.uponIn] at h ⊢ <;> exact h
theorem wpList_in {P : Program} {ops : Array Oper} {Q : Exit → Act → World → Prop} {r : Option Nat} (hq : ∀ e a w, Q e a w → e = .normal) : ∀ {l : List Oper}, noDef l = true → ∀ {a : Act} {w : World}, wpList P ops Q l a w → wpListIn (rd r) 0 P ops Q l a w
  | [], _, _, _, h => h
  | o :: l, hd, a, w, h => by
    simp only [noDef, Bool.and_eq_true] at hd
    unfold wpList at h
    unfold wpListIn
    split at h
    · rename_i hw
      rw [if_pos hw]
      rcases h with h | ⟨_, a', w', h⟩
      · exact Oper.wpIn_mono (fun a w h => wpList_in hq hd.2 h) (op_in hd.1 h)
      · have := hq _ _ _ h; cases this
    · rename_i hw
      rw [if_neg hw]
      exact ⟨fun _ _ => trivial, wpList_in hq hd.2 h⟩
theorem wpAny_in {P : Program} {md : Region.Mode} {l : List Oper} {Q : Exit → Act → World → Prop} {r : Option Nat} (hq : ∀ e a w, Q e a w → e = .normal) (hd : noDef l = true) : ∀ {fuel : Nat} {listed : Array Bool} {a : Act} {w : World}, wpAny P md l.toArray Q fuel listed a w → wpAnyIn (rd r) 0 P md l.toArray Q fuel listed a w
  | 0, _, _, _, h => h
  | fuel + 1, listed, a, w, h => by
    refine ⟨h.1, fun i hi => ?_⟩
    have h2 := h.2 i hi
    unfold wpOp at h2
    unfold wpOpIn
    cases ho : l.toArray[i]? with
    | none =>
      simp only [ho] at h2 ⊢
      exact wpAny_in hq hd h2
    | some o =>
      simp only [ho] at h2 ⊢
      split at h2
      · rename_i hw
        rw [if_pos hw]
        rcases h2 with h2 | ⟨_, a', w', h2⟩
        · exact Oper.wpIn_mono (fun a w h => wpAny_in hq hd h) (op_in (noDef_get hd (i := i) (by simpa using ho)) h2)
        · have := hq _ _ _ h2; cases this
      · rename_i hw
        rw [if_neg hw]
        exact ⟨fun _ _ => trivial, wpAny_in hq hd h2⟩

structure Sim (n : Nat × Nat) (c : Ctx) (ρ : Pl) (S : Nat → Prop) (env : Env) (h : Hp) (a : Act) (w : World) : Prop where
  size : a.tmps.size = n.1
  defers : Marks c S a.defers w
  env : ∀ t x, look env t = some x → R S w x ρ (a.tmps.getD t undef)
  hs : HS c ρ S h w
  cm : c.m = n.2

structure Pre (ρ : Pl) (S : Nat → Prop) (env : Env) (h : Hp) (a : Act) (w : World) : Prop where
  env : ∀ t x, look env t = some x → R S w x ρ (a.tmps.getD t undef)
  rng : ∀ k p, ρ k = some p → p.1 < w.heap.size
  blk : ∀ (k : Nat) b, h[k]? = some b → RB S w ρ (ρ k) b
  live : ∀ (k : Nat) b p, h[k]? = some b → b ≠ .gone → ρ k = some p → ¬ S p.1
  stab : ∀ b, S b → b < w.heap.size
  glob : GlobOk S w

theorem Sim.pre {n : Nat × Nat} {c : Ctx} {ρ : Pl} {S : Nat → Prop} {env : Env} {h : Hp} {a : Act} {w : World} (s : Sim n c ρ S env h a w) : Pre ρ S env h a w :=
  ⟨s.env, s.hs.rng, s.hs.blk, fun k b p h1 h2 h3 => (s.hs.live k b p h1 h2 h3).2, s.hs.stab, s.hs.glob⟩

structure Post (ρ ρ' : Pl) (S S' : Nat → Prop) (w w' : World) (pos m : Nat) (x : AV) (new : List AB) (y : Value) : Prop where
  ext : Ext (fun _ => False) w w'
  len : new.length = m
  keep : ∀ k, k < pos ∨ pos + m ≤ k → ρ' k = ρ k
  st : ∀ b, S b → S' b
  stn : ∀ b, S' b → S b ∨ (w.heap.size ≤ b ∧ b < w'.heap.size)
  fresh : ∀ k p, pos ≤ k → k < pos + m → ρ' k = some p → w.heap.size ≤ p.1 ∧ p.1 < w'.heap.size ∧ ¬ S' p.1
  inj : ∀ k k' p p', pos ≤ k → k < pos + m → pos ≤ k' → k' < pos + m → ρ' k = some p → ρ' k' = some p' → p.1 = p'.1 → k = k'
  val : R S' w' x ρ' y
  blk : ∀ (j : Nat) b, new[j]? = some b → RB S' w' ρ' (ρ' (pos + j)) b

def FStep (P : Program) (o : Oper) (env : Env) (h : Hp) (m : Nat) (x : Nat → AV) (new : Nat → List AB) : Prop :=
  ∀ ρ S a w, Pre ρ S env h a w → ∀ pos, (∀ j, j < m → ρ (pos + j) = none) → ∀ K Q,
    (∀ y ρ' S' w', Post ρ ρ' S S' w w' pos m (x pos) (new pos) y → K (a.put o.dst y) w') → o.wp P a w K Q

def VC (P : Program) (n : Nat × Nat) (ops : Array Oper) (rest : List Oper) (env : Env) (h : Hp) (K : Env → Hp → Prop) : Prop :=
  ∀ c ρ S a w Q, Sim n c ρ S env h a w → (∀ env' h' ρ' S' a' w', K env' h' → Sim n c ρ' S' env' h' a' w' → Q Exit.normal a' w') → wpList P ops Q rest a w

def AW (P : Program) (n : Nat × Nat) (code : Code) (env : Env) (h : Hp) (Q : Exit → Env → Hp → Prop) : Prop :=
  ∀ c ρ S a w QQ, Sim n c ρ S env h a w → (∀ e env' h' ρ' S' a' w', Q e env' h' → Sim n c ρ' S' env' h' a' w' → QQ e a' w') → code.wpIn (rd c.r) 0 P QQ a w

theorem Post.later {ρ ρ' : Pl} {S S' : Nat → Prop} {w w' : World} {pos m : Nat} {x : AV} {new : List AB} {y : Value} (p : Post ρ ρ' S S' w w' pos m x new y) (hn : ∀ j, j < m → ρ (pos + j) = none) (hs : ∀ b, S b → b < w.heap.size) : Later ρ ρ' S S' w w' := by
  refine ⟨fun k q hq => ?_, p.st, fun b hb => p.ext.same b (hs b hb) (by simp), fun _ _ _ _ _ hr => p.ext.room hr⟩
  rw [p.keep k ?_]; exact hq
  by_cases h1 : k < pos
  · exact .inl h1
  · by_cases h2 : pos + m ≤ k
    · exact .inr h2
    · have := hn (k - pos) (by omega)
      rw [show pos + (k - pos) = k by omega, hq] at this
      cases this

theorem getD_put_same {a : Act} {d : Nat} {y : Value} (hd : d < a.tmps.size) : (a.put (some d) y).tmps.getD d undef = y := by
  simp [Act.put, Array.getD, hd]
theorem getD_put_other {a : Act} {d t : Nat} {y : Value} (hd : d ≠ t) : (a.put (some d) y).tmps.getD t undef = a.tmps.getD t undef := by
  simp only [Act.put, Array.getD_eq_getD_getElem?]
  rw [Array.getElem?_setIfInBounds_ne hd]
theorem size_put (a : Act) (d : Option Nat) (y : Value) : (a.put d y).tmps.size = a.tmps.size := by cases d <;> simp [Act.put]
theorem defers_put (a : Act) (d : Option Nat) (y : Value) : (a.put d y).defers = a.defers := by cases d <;> simp [Act.put]
theorem look_cons (k t : Nat) (x : AV) (r : Env) : look ((k, x) :: r) t = if k = t then some x else look r t := by
  show (match Nat.beq k t with | true => some x | false => look r t) = _
  by_cases h : k = t
  · subst h; simp
  · have : Nat.beq k t = false := by
      rw [← Bool.not_eq_true]; intro hb; exact h (Nat.eq_of_beq_eq_true hb)
    rw [this]; simp [h]

def okd (d : Option Nat) (n : Nat × Nat) : Bool := match d with
  | some t => Nat.blt t n.1
  | none => true

theorem env_put {S : Nat → Prop} {w : World} {ρ : Pl} {env : Env} {a : Act} {n : Nat × Nat} {d : Option Nat} {x : AV} {y : Value} (hsize : a.tmps.size = n.1) (hd : okd d n = true)
    (he : ∀ t u, look env t = some u → R S w u ρ (a.tmps.getD t undef)) (hy : R S w x ρ y) : ∀ t u, look (putd d x env) t = some u → R S w u ρ ((a.put d y).tmps.getD t undef) := by
  intro t u hu
  cases d with
  | none => exact he t u hu
  | some d =>
    have hlt : d < a.tmps.size := by rw [hsize]; exact Nat.le_of_ble_eq_true hd
    simp only [putd, look_cons] at hu
    by_cases h : d = t
    · subst h
      rw [if_pos rfl] at hu
      cases hu
      rw [getD_put_same hlt]; exact hy
    · rw [if_neg h] at hu
      rw [getD_put_other h]; exact he t u hu

theorem HS.post {c : Ctx} {ρ ρ' : Pl} {S S' : Nat → Prop} {h : Hp} {w w' : World} {m : Nat} {x : AV} {new : List AB} {y : Value} (s : HS c ρ S h w) (p : Post ρ ρ' S S' w w' h.length m x new y) :
    HS c ρ' S' (h ++ new) w' := by
  have hn : ∀ j, j < m → ρ (h.length + j) = none := fun j _ => s.dom _ (Nat.le_add_right _ _)
  have l := p.later hn s.stab
  have hsz : c.w0.heap.size ≤ w.heap.size := s.ext.size
  refine ⟨fun k hk => ?_, fun k q hq => ?_, fun k b hb => ?_, fun k b q hb hg hq => ?_, fun k k' b b' q q' hb hb' hg hg' hq hq' e => ?_, fun b hb => ?_, ?_, fun b hb => p.st b (s.st0 b hb), fun b hb => ?_, by rw [List.length_append]; exact Nat.le_trans s.mle (Nat.le_add_right _ _), fun k hk => by rw [p.keep k (.inl (Nat.lt_of_lt_of_le hk s.mle))]; exact s.keep k hk, s.glob.later l⟩
  · rw [List.length_append, p.len] at hk
    rw [p.keep k (.inr hk)]; exact s.dom k (by omega)
  · by_cases hk : k < h.length ∨ h.length + m ≤ k
    · rw [p.keep k hk] at hq
      exact Nat.lt_of_lt_of_le (s.rng k q hq) p.ext.size
    · exact (p.fresh k q (by omega) (by omega) hq).2.1
  · by_cases hk : k < h.length
    · rw [List.getElem?_append_left hk] at hb
      rw [p.keep k (.inl hk)]
      exact RB.later l (fun b' o hb' => p.ext.same b' (s.rng k _ hb') (by simp)) (s.blk k b hb)
    · rw [List.getElem?_append_right (by omega)] at hb
      have := p.blk (k - h.length) b hb
      rwa [show h.length + (k - h.length) = k by omega] at this
  · by_cases hk : k < h.length
    · rw [List.getElem?_append_left hk] at hb
      rw [p.keep k (.inl hk)] at hq
      obtain ⟨h1, h2⟩ := s.live k b q hb hg hq
      refine ⟨h1, fun hs => ?_⟩
      rcases p.stn _ hs with hs | hs
      · exact h2 hs
      · have := s.rng k q hq; omega
    · have hlt : k < h.length + m := by
        have := (List.getElem?_eq_some_iff.1 hb).1
        rw [List.length_append, p.len] at this; exact this
      obtain ⟨h1, h2, h3⟩ := p.fresh k q (by omega) hlt hq
      exact ⟨c.new _ (by omega), h3⟩
  · have hlt : ∀ {k : Nat} {b : AB}, (h ++ new)[k]? = some b → k < h.length + m := fun hb => by
      have := (List.getElem?_eq_some_iff.1 hb).1
      rw [List.length_append, p.len] at this; exact this
    by_cases hk : k < h.length <;> by_cases hk' : k' < h.length
    · rw [List.getElem?_append_left hk] at hb
      rw [List.getElem?_append_left hk'] at hb'
      rw [p.keep k (.inl hk)] at hq
      rw [p.keep k' (.inl hk')] at hq'
      exact s.inj k k' b b' q q' hb hb' hg hg' hq hq' e
    · rw [p.keep k (.inl hk)] at hq
      have h1 := s.rng k q hq
      have h2 := (p.fresh k' q' (by omega) (hlt hb') hq').1
      omega
    · rw [p.keep k' (.inl hk')] at hq'
      have h1 := s.rng k' q' hq'
      have h2 := (p.fresh k q (by omega) (hlt hb) hq).1
      omega
    · exact p.inj k k' q q' (by omega) (hlt hb) (by omega) (hlt hb') hq hq' e
  · rcases p.stn b hb with hb | hb
    · exact Nat.lt_of_lt_of_le (s.stab b hb) p.ext.size
    · exact hb.2
  · exact s.ext.trans p.ext (fun _ h => h.elim)
  · rcases p.stn b hb with hb | hb
    · exact s.st1 b hb
    · exact .inr (c.new b (by omega))

theorem Sim.post {n : Nat × Nat} {c : Ctx} {ρ ρ' : Pl} {S S' : Nat → Prop} {env : Env} {h : Hp} {a : Act} {w w' : World} {m : Nat} {x : AV} {new : List AB} {y : Value} {d : Option Nat}
    (s : Sim n c ρ S env h a w) (hd : okd d n = true) (p : Post ρ ρ' S S' w w' h.length m x new y) : Sim n c ρ' S' (putd d x env) (h ++ new) (a.put d y) w' := by
  have l := p.later (fun j _ => s.hs.dom _ (Nat.le_add_right _ _)) s.hs.stab
  exact ⟨by rw [size_put]; exact s.size, by rw [defers_put]; exact s.defers.later l, env_put s.size hd (fun t u hu => (s.env t u hu).later l) p.val, s.hs.post p, s.cm⟩

theorem wanted_none {o : Oper} {f : Nat → Option Bool} (hg : o.guard = none) : Region.wanted o f = true := by simp [Region.wanted, hg]

theorem vc_f {P : Program} {n : Nat × Nat} {ops : Array Oper} {o : Oper} {rest : List Oper} {env : Env} {h : Hp} {K : Env → Hp → Prop} {m : Nat} {x : Nat → AV} {new : Nat → List AB}
    (hs : FStep P o env h m x new) (hg : o.guard = none) (hd : okd o.dst n = true) (hk : VC P n ops rest (putd o.dst (x h.length) env) (h ++ new h.length) K) : VC P n ops (o :: rest) env h K := by
  intro c ρ S a w Q s hQ
  refine wpList_plain hg fun K' hK' => ?_
  exact hs ρ S a w s.pre h.length (fun j _ => s.hs.dom _ (Nat.le_add_right _ _)) K' Q fun y ρ' S' w' p => hK' _ _ (hk c ρ' S' _ w' Q (s.post hd p) hQ)

theorem vc_nil {P : Program} {n : Nat × Nat} {ops : Array Oper} {env : Env} {h : Hp} {K : Env → Hp → Prop} (hk : K env h) : VC P n ops [] env h K :=
  fun _ _ _ _ _ _ s hQ => hQ _ _ _ _ _ _ hk s

theorem VC.mono {P : Program} {n : Nat × Nat} {ops : Array Oper} {rest : List Oper} {env : Env} {h : Hp} {K K' : Env → Hp → Prop} (hv : VC P n ops rest env h K) (hk : ∀ e h, K e h → K' e h) : VC P n ops rest env h K' :=
  fun c ρ S a w Q s hQ => hv c ρ S a w Q s fun env' h' ρ' S' a' w' k s' => hQ env' h' ρ' S' a' w' (hk _ _ k) s'

/-! ### Code -/
section
variable {P : Program} {n : Nat × Nat} {env : Env} {h : Hp} {Q : Exit → Env → Hp → Prop}

theorem AW.mono {code : Code} {Q' : Exit → Env → Hp → Prop} (hv : AW P n code env h Q) (hk : ∀ e v h, Q e v h → Q' e v h) : AW P n code env h Q' :=
  fun c ρ S a w QQ s hQ => hv c ρ S a w QQ s fun e env' h' ρ' S' a' w' k s' => hQ e env' h' ρ' S' a' w' (hk _ _ _ k) s'

def nextQ (K : Env → Hp → Prop) (Q : Exit → Env → Hp → Prop) : Exit → Env → Hp → Prop
  | .normal, v, h => K v h
  | e, v, h => Q e v h
def blockQ (id : Nat) (Q : Exit → Env → Hp → Prop) : Exit → Env → Hp → Prop
  | .exit id', v, h => if id' = id then Q .normal v h else Q (.exit id') v h
  | e, v, h => Q e v h

theorem aw_seq {x y : Code} (hx : AW P n x env h (nextQ (fun v h => AW P n y v h Q) Q)) : AW P n (.seq x y) env h Q := by
  intro c ρ S a w QQ s hQ
  refine wpIn_seq (hx c ρ S a w _ s fun e env' h' ρ' S' a' w' k s' => ?_)
  cases e with
  | normal => exact k c ρ' S' a' w' QQ s' hQ
  | _ => exact hQ _ env' h' ρ' S' a' w' k s'
theorem aw_skip (hk : Q .normal env h) : AW P n .skip env h Q := fun _ _ _ _ _ _ s hQ => wpIn_skip (hQ _ _ _ _ _ _ _ hk s)
theorem aw_exit {id : Nat} (hk : Q (.exit id) env h) : AW P n (.exit id) env h Q := fun _ _ _ _ _ _ s hQ => wpIn_exit (hQ _ _ _ _ _ _ _ hk s)
theorem aw_ret (hk : Q .ret env h) : AW P n .ret env h Q := fun _ _ _ _ _ _ s hQ => wpIn_ret (hQ _ _ _ _ _ _ _ hk s)
theorem aw_block {id : Nat} {x : Code} (hx : AW P n x env h (blockQ id Q)) : AW P n (.block id x) env h Q := by
  intro c ρ S a w QQ s hQ
  refine wpIn_block (hx c ρ S a w _ s fun e env' h' ρ' S' a' w' k s' => ?_)
  cases e with
  | exit id' =>
    by_cases hid : id' = id
    · simp only [blockQ, hid, if_true] at k
      simp only [Exit.inBlock, hid, if_true]
      exact hQ _ env' h' ρ' S' a' w' k s'
    · simp only [blockQ, hid, if_false] at k
      simp only [Exit.inBlock, hid, if_false]
      exact hQ _ env' h' ρ' S' a' w' k s'
  | _ => exact hQ _ env' h' ρ' S' a' w' k s'

theorem Sim.ev {n : Nat × Nat} {c : Ctx} {ρ : Pl} {S : Nat → Prop} {env : Env} {h : Hp} {a : Act} {w : World} (s : Sim n c ρ S env h a w) {x : Operand} {u : AV} (hx : ev env x = some u) : R S w u ρ (a.eval x) := by
  cases x with
  | tmp t => exact s.env t u hx
  | const v => cases hx; simp [R, Act.eval]
  | func f => cases hx; simp [R, RL, Act.eval]
  | global g => cases hx
theorem Pre.ev {ρ : Pl} {S : Nat → Prop} {env : Env} {h : Hp} {a : Act} {w : World} (s : Pre ρ S env h a w) {x : Operand} {u : AV} (hx : Ab.ev env x = some u) : R S w u ρ (a.eval x) := by
  cases x with
  | tmp t => exact s.env t u hx
  | const v => cases hx; simp [R, Act.eval]
  | func f => cases hx; simp [R, RL, Act.eval]
  | global g => cases hx

theorem aw_cond {x : Operand} {b : Bool} {p q : Code} (hx : ev env x = some (.b b)) (ht : b = true → AW P n p env h Q) (hf : b = false → AW P n q env h Q) : AW P n (.cond x p q) env h Q := by
  intro c ρ S a w QQ s hQ
  have hb := s.ev hx
  simp only [R] at hb
  exact wpIn_cond_split hb (fun h1 => ht h1 c ρ S a w QQ s hQ) (fun h1 => hf h1 c ρ S a w QQ s hQ)

theorem aw_region {id : Nat} {l : List Oper} (hv : VC P n l.toArray l env h (fun v h => Q .normal v h)) (hnd : noDef l = true := by rfl) : AW P n (.region id l.toArray false) env h Q := by
  intro c ρ S a w QQ s hQ
  exact wpIn_mono (wpIn_region_lit (wpList_in (fun e a w h => h.1) hnd (hv c ρ S a w (fun e a w => e = .normal ∧ QQ .normal a w) s fun env' h' ρ' S' a' w' k s' => ⟨rfl, hQ _ env' h' ρ' S' a' w' k s'⟩))) fun e a w he => by obtain ⟨rfl, h3⟩ := he; exact h3

theorem Sim.fewer {n : Nat × Nat} {c : Ctx} {ρ : Pl} {S : Nat → Prop} {env env' : Env} {h : Hp} {a : Act} {w : World} (s : Sim n c ρ S env h a w) (he : ∀ t x, look env' t = some x → look env t = some x) : Sim n c ρ S env' h a w :=
  ⟨s.size, s.defers, fun t x hx => s.env t x (he t x hx), s.hs, s.cm⟩

end
end Go.Ab

/-! A logic of values for the walk, third part: the operations, one by one. -/
namespace Go.Ab
open Go
set_option linter.unusedVariables false
set_option linter.unusedSimpArgs false

structure TI where
  agg : Bool
  size : Nat
  bytes : Nat
  zero : List Value

def aggB (P : Program) (t : TypeId) : Option Bool := match P.underlying t with
  | some (.struct _) => some true
  | some (.array _ _) => some true
  | some _ => some false
  | none => none

def placesP (P : Program) (t : TypeId) : Option (List (Nat × Nat)) := match P.underlying t with
  | some (.struct fields) => fields.toList.mapM (fun f => (P.info? f.type).map fun i => (f.offset, i.size))
  | _ => none

structure Tab (P : Program) where
  ti : Nat → Option TI
  tiOk : ∀ t i, ti t = some i → ∃ inf z, P.info? t = some inf ∧ inf.size = i.size ∧ inf.bytes = i.bytes ∧ inf.zero = some z ∧ z.cells.toList = i.zero ∧ i.zero.length = i.size ∧ aggB P t = some i.agg
  elem : Nat → Option Nat
  elemOk : ∀ t e, elem t = some e → P.underlying t = some (.slice e)
  field : Nat → Nat → Option Nat
  fieldOk : ∀ t f o, field t f = some o → ∃ fs fd inf, P.underlying t = some (.struct fs) ∧ fs[f]? = some fd ∧ fd.offset = o ∧ P.info? fd.type = some inf ∧ inf.size ≠ 0
  arr : Nat → Option (Nat × Nat)
  arrOk : ∀ t n e, arr t = some (n, e) → P.underlying t = some (.array n e)
  places : Nat → Option (List (Nat × Nat))
  placesOk : ∀ t l, places t = some l → placesP P t = some l

theorem ti_mk {P : Program} {t : TypeId} {z : Value} {size bytes : Nat} {agg : Bool} {zero : List Value} (h : (P.info? t).map (fun i => (i.zero, i.size, i.bytes)) = some (some z, size, bytes)) (ha : aggB P t = some agg) (hz : z.cells.toList = zero) (hl : zero.length = size) :
    ∃ inf z, P.info? t = some inf ∧ inf.size = size ∧ inf.bytes = bytes ∧ inf.zero = some z ∧ z.cells.toList = zero ∧ zero.length = size ∧ aggB P t = some agg := by
  obtain ⟨i, hi, h1, h2, h3⟩ := info_parts h
  exact ⟨i, z, hi, h2, h3, h1, hz, hl, ha⟩
def fieldP (P : Program) (t : TypeId) (f : Nat) : Option (Nat × Nat) := match P.underlying t with
  | some (.struct fs) => match fs[f]? with
    | some fd => (P.info? fd.type).map fun i => (fd.offset, i.size)
    | none => none
  | _ => none
theorem field_mk {P : Program} {t : TypeId} {f o n : Nat} (h : fieldP P t f = some (o, n + 1)) : ∃ fs fd inf, P.underlying t = some (.struct fs) ∧ fs[f]? = some fd ∧ fd.offset = o ∧ P.info? fd.type = some inf ∧ inf.size ≠ 0 := by
  unfold fieldP at h
  split at h
  · rename_i fs hfs
    split at h
    · rename_i fd hfd
      obtain ⟨i, hi, hz⟩ := Option.map_eq_some_iff.1 h
      simp only [Prod.mk.injEq] at hz
      exact ⟨fs, fd, i, hfs, hfd, hz.1, hi, by omega⟩
    · cases h
  · cases h
theorem Tab.agg {P : Program} (T : Tab P) {t : Nat} {i : TI} (h : T.ti t = some i) (w : World) : (isAgg t).run P w = .ok i.agg w := by
  obtain ⟨inf, z, h1, h2, h3, h4, h5, h6, h7⟩ := T.tiOk t i h
  unfold aggB at h7
  split at h7 <;> rename_i hu <;> try (cases h7; done)
  · simp only [Option.some.injEq] at h7; rw [← h7]; simp [isAgg, run_underlying hu]
  · simp only [Option.some.injEq] at h7; rw [← h7]; simp [isAgg, run_underlying hu]
  · rename_i d hn1 hn2
    simp only [Option.some.injEq] at h7
    rw [← h7]
    cases d <;> first | (exact absurd rfl (hn1 _)) | (exact absurd rfl (hn2 _ _)) | simp [isAgg, run_underlying hu]
theorem Tab.sizeOf {P : Program} (T : Tab P) {t : Nat} {i : TI} (h : T.ti t = some i) (w : World) : (Go.sizeOf t).run P w = .ok i.size w := by
  obtain ⟨inf, z, h1, h2, _⟩ := T.tiOk t i h
  simp [Go.sizeOf, typeInfo, h1, h2]
theorem Tab.zeroV {P : Program} (T : Tab P) {t : Nat} {i : TI} (h : T.ti t = some i) (w : World) : ∃ z, (zeroValue t).run P w = .ok z w ∧ z.cells.toList = i.zero := by
  obtain ⟨inf, z, h1, h2, h3, h4, h5, _⟩ := T.tiOk t i h
  exact ⟨z, by simp [zeroValue, typeInfo, h1, h4], h5⟩

def AV.one : AV → Bool
  | .v x => x.oneCell'
  | .ptr .. | .ep .. | .pr .. | .sl .. | .mp .. | .mrow .. | .row .. | .clo .. | .ifc .. => true
  | _ => false
theorem one_val {S : Nat → Prop} {w : World} {ρ : Pl} {x : AV} {y : Value} (h : R S w x ρ y) (h1 : x.one = true) : y.oneCell' = true := by
  cases x <;> simp only [AV.one, R] at h h1 <;> try (cases h1)
  all_goals first
    | (subst h; exact h1)
    | (obtain ⟨_, _, h⟩ := h; first | (obtain ⟨_, rfl, _⟩ := h; rfl) | (obtain ⟨_, rfl⟩ := h; rfl) | (obtain ⟨rfl, _⟩ := h; rfl))
    | (obtain ⟨_, rfl, _⟩ := h; rfl)
theorem cells_one {y : Value} (h : y.oneCell' = true) : y.cells = #[y] := by cases y <;> first | rfl | (simp [Value.oneCell'] at h)

def AV.cellsOf : AV → Option (List AV)
  | .agg cs => some cs
  | x => match x.one with
    | true => some [x]
    | false => none
theorem cellsOf_val {S : Nat → Prop} {w : World} {ρ : Pl} {x : AV} {cs : List AV} {y : Value} (h : R S w x ρ y) (hc : x.cellsOf = some cs) : RL S w cs ρ y.cells.toList := by
  have key : x.one = true → cs = [x] → RL S w cs ρ y.cells.toList := fun h1 h2 => by
    subst h2
    rw [cells_one (one_val h h1)]
    simp only [RL]
    exact ⟨y, [], rfl, h, rfl⟩
  cases x with
  | agg xs =>
    simp only [AV.cellsOf, Option.some.injEq] at hc
    subst hc
    simp only [R] at h
    obtain ⟨ys, rfl, h⟩ := h
    exact h
  | v x =>
    simp only [AV.cellsOf] at hc
    split at hc
    · rename_i h1; exact key h1 (by simpa using hc.symm)
    · cases hc
  | _ => first | (simp [AV.cellsOf, AV.one] at hc; done) | exact key rfl (by simpa [AV.cellsOf, AV.one] using hc.symm)

section
variable {P : Program} {env : Env} {h : Hp}

def AV.un : AV → AV
  | .cond true x => x.un
  | x => x
theorem un_val {S : Nat → Prop} {w : World} {ρ : Pl} : ∀ {x : AV} {y : Value}, R S w x ρ y → R S w x.un ρ y
  | .cond true x, y, h => by
    simp only [R] at h
    simp only [AV.un]
    exact un_val (h trivial)
  | .cond false x, y, h => h
  | .v _, _, h | .any, _, h | .ptr .., _, h | .ep .., _, h | .pr .., _, h | .sl .., _, h | .mp .., _, h | .mrow .., _, h | .row .., _, h | .agg _, _, h | .tup _, _, h | .clo .., _, h | .ifc .., _, h => h
def evu (env : Env) (x : Operand) : Option AV := match ev env x with
  | some u => some u.un
  | none => none
theorem Pre.evu {ρ : Pl} {S : Nat → Prop} {env : Env} {h : Hp} {a : Act} {w : World} (s : Pre ρ S env h a w) {x : Operand} {u : AV} (hx : Ab.evu env x = some u) : R S w u ρ (a.eval x) := by
  unfold Ab.evu at hx
  split at hx
  · rename_i u' h'
    cases hx
    exact un_val (s.ev h')
  · cases hx

theorem fs_val {o : Oper} {u : AV} (hrun : ∀ ρ S a w, Pre ρ S env h a w → ∃ y, (execOp a.eval o).run P w = .ok (.value y) w ∧ R S w u ρ y) : FStep P o env h 0 (fun _ => u) (fun _ => []) := by
  intro ρ S a w p pos hp K Q hk
  obtain ⟨y, h1, h2⟩ := hrun ρ S a w p
  unfold Oper.wp
  rw [h1]
  exact hk y ρ S w ⟨Ext.refl _ _, rfl, fun _ _ => rfl, fun _ h => h, fun _ h => .inl h, fun k p h1 h2 => by omega, fun k k' p p' h1 h2 => by omega, h2, fun j b hb => by simp at hb⟩

theorem ext_alloc (w : World) (o : Obj) (M : Nat → Prop) : Ext M w (w.alloc o) :=
  ⟨rfl, rfl, rfl, by simp, fun b hb _ => RowKit.Below.heap_alloc w o b hb, fun b c e fz hc => ⟨c, fz, by rw [RowKit.Below.heap_alloc w o b (Array.getElem?_eq_some_iff.1 hc).1]; exact hc, rfl⟩⟩
theorem Ext.drew1 {M : Nat → Prop} (w : World) : Ext M w w.drew := ⟨rfl, rfl, rfl, Nat.le_refl _, fun _ _ _ => rfl, fun _ c _ fz h => ⟨c, fz, h, rfl⟩⟩

def Pl.with (ρ : Pl) (k : Nat) (p : Nat × Nat) : Pl := fun j => if j = k then some p else ρ j

theorem fs_new {o : Oper} {u : Nat → AV} {b : AB} (hrun : ∀ ρ S a w, Pre ρ S env h a w → ∃ (c : Array Value) (e : TypeId) (y : Value) (dr : Bool), (execOp a.eval o).run P w = .ok (.value y) ((if dr then w.drew else w).alloc (.cells c e)) ∧
      ∀ pos, ρ pos = none → ∀ w', (w'.heap[w.heap.size]? = some (.cells c e (0, 0))) → Later ρ (ρ.with pos (w.heap.size, 0)) S S w w' →
        R S w' (u pos) (ρ.with pos (w.heap.size, 0)) y ∧ RB S w' (ρ.with pos (w.heap.size, 0)) (some (w.heap.size, 0)) b) :
    FStep P o env h 1 u (fun _ => [b]) := by
  intro ρ S a w p pos hp K Q hk
  obtain ⟨c, e, y, dr, h1, h2⟩ := hrun ρ S a w p
  have hpos : ρ pos = none := by simpa using hp 0 (by omega)
  unfold Oper.wp
  rw [h1]
  have hw : (if dr then w.drew else w).heap = w.heap := by cases dr <;> rfl
  have hsz : (if dr then w.drew else w).heap.size = w.heap.size := by rw [hw]
  have hx : Ext (fun _ => False) w ((if dr then w.drew else w).alloc (.cells c e)) := by
    cases dr
    · exact ext_alloc _ _ _
    · exact (Ext.drew1 w).trans (ext_alloc _ _ (fun _ => False)) (fun _ h => h.elim)
  have hl : Later ρ (ρ.with pos (w.heap.size, 0)) S S w ((if dr then w.drew else w).alloc (.cells c e)) := by
    refine ⟨fun k q hq => ?_, fun _ h => h, fun b hb => hx.same b (p.stab b hb) (by simp), fun _ _ _ _ _ hr => hx.room hr⟩
    unfold Pl.with
    rw [if_neg (fun e => by rw [e, hpos] at hq; cases hq)]; exact hq
  have hnew : ((if dr then w.drew else w).alloc (.cells c e)).heap[w.heap.size]? = some (.cells c e (0, 0)) := by
    have := heap_alloc_new (if dr then w.drew else w) (.cells c e)
    rwa [hsz] at this
  obtain ⟨h3, h4⟩ := h2 pos hpos _ hnew hl
  have hss : ((if dr then w.drew else w).alloc (.cells c e)).heap.size = w.heap.size + 1 := by rw [World.size_alloc, hsz]
  refine hk y (ρ.with pos (w.heap.size, 0)) S _ ⟨hx, rfl, fun k hk => ?_, fun _ h => h, fun _ h => .inl h, fun k q hk1 hk2 hq => ?_, fun k k' q q' a1 a2 a3 a4 _ _ _ => by omega, h3, fun j b' hb => ?_⟩
  · unfold Pl.with; rw [if_neg (by omega)]
  · have : k = pos := by omega
    subst this
    simp only [Pl.with, if_true, Option.some.injEq] at hq
    subst hq
    refine ⟨Nat.le_refl _, by simp [hss], fun hs => ?_⟩
    have := p.stab _ hs
    simp at this
  · cases j with
    | zero =>
      simp only [List.getElem?_cons_zero, Option.some.injEq] at hb
      subst hb
      simpa [Pl.with] using h4
    | succ j => simp at hb

/-! ### Values -/
variable {d : Option Nat} {ty : TypeId} {pos : String} {af : Array Edge} {g : Option (Nat × Bool)}

theorem fs_move {x : Operand} {u : AV} (hx : evu env x = some u) : FStep P ⟨d, .move x, ty, pos, af, g⟩ env h 0 (fun _ => u) (fun _ => []) :=
  fs_val fun _ _ _ _ p => ⟨_, rfl, p.evu hx⟩
theorem fs_assign {x : Operand} {u : AV} (hx : evu env x = some u) : FStep P ⟨d, .assign x, ty, pos, af, g⟩ env h 0 (fun _ => u) (fun _ => []) :=
  fs_val fun _ _ _ _ p => ⟨_, rfl, p.evu hx⟩

theorem R_v {S : Nat → Prop} {w : World} {ρ : Pl} {x y : Value} (h : R S w (.v x) ρ y) : y = x := by simpa [R] using h
theorem R_v_mk {S : Nat → Prop} {w : World} {ρ : Pl} (x : Value) : R S w (.v x) ρ x := by simp [R]

theorem fs_pick {c x y : Operand} {b : Bool} {u v : AV} (hc : evu env c = some (.b b)) (hx : evu env x = some u) (hy : evu env y = some v) : FStep P ⟨d, .pick c x y, ty, pos, af, g⟩ env h 0 (fun _ => if b then u else v) (fun _ => []) := by
  refine fs_val fun ρ S a w p => ?_
  have h1 := R_v (p.evu hc)
  refine ⟨if b then a.eval x else a.eval y, by simp [execOp, h1, asBool], ?_⟩
  cases b
  · exact p.evu hy
  · exact p.evu hx
/-! ### Numbers -/
theorem fs_bin {op : BinOp} {t t2 : TypeId} {x y : Operand} {k : IntKind} {a b : Int} {z : Value} (hx : evu env x = some (.v (.int k a))) (hy : evu env y = some (.v (.int k b)))
    (hz : ∀ w, (binOp op t (.int k a) (.int k b)).run P w = .ok z w) : FStep P ⟨d, .binOp op t x y t2, ty, pos, af, g⟩ env h 0 (fun _ => .v z) (fun _ => []) := by
  refine fs_val fun ρ S ac w p => ?_
  have h1 := R_v (p.evu hx)
  have h2 := R_v (p.evu hy)
  refine ⟨z, ?_, R_v_mk z⟩
  have hg : ∀ w, (eqGuard op t x y (.int k a) (.int k b)).run P w = .ok () w := fun w => by
    unfold eqGuard
    cases op <;> rfl
  simp [execOp, h1, h2, hg, hz]
theorem fs_add {t t2 : TypeId} {x y : Operand} {k : IntKind} {a b : Int} (hx : evu env x = some (.v (.int k a))) (hy : evu env y = some (.v (.int k b))) :
    FStep P ⟨d, .binOp .add t x y t2, ty, pos, af, g⟩ env h 0 (fun _ => .v (.int k (k.wrap (a + b)))) (fun _ => []) := fs_bin hx hy fun w => by simp [binOp, Op.intArith]
theorem fs_sub {t t2 : TypeId} {x y : Operand} {k : IntKind} {a b : Int} (hx : evu env x = some (.v (.int k a))) (hy : evu env y = some (.v (.int k b))) :
    FStep P ⟨d, .binOp .sub t x y t2, ty, pos, af, g⟩ env h 0 (fun _ => .v (.int k (k.wrap (a - b)))) (fun _ => []) := fs_bin hx hy fun w => by simp [binOp, Op.intArith]
theorem fs_mul {t t2 : TypeId} {x y : Operand} {k : IntKind} {a b : Int} (hx : evu env x = some (.v (.int k a))) (hy : evu env y = some (.v (.int k b))) :
    FStep P ⟨d, .binOp .mul t x y t2, ty, pos, af, g⟩ env h 0 (fun _ => .v (.int k (k.wrap (a * b)))) (fun _ => []) := fs_bin hx hy fun w => by simp [binOp, Op.intArith]
theorem fs_quo {t t2 : TypeId} {x y : Operand} {k : IntKind} {a b : Int} (hx : evu env x = some (.v (.int k a))) (hy : evu env y = some (.v (.int k b))) (hb : b ≠ 0) :
    FStep P ⟨d, .binOp .quo t x y t2, ty, pos, af, g⟩ env h 0 (fun _ => .v (.int k (k.wrap (a.tdiv b)))) (fun _ => []) := fs_bin hx hy fun w => by simp [binOp, Op.intDiv, hb]
theorem fs_rem {t t2 : TypeId} {x y : Operand} {k : IntKind} {a b : Int} (hx : evu env x = some (.v (.int k a))) (hy : evu env y = some (.v (.int k b))) (hb : b ≠ 0) :
    FStep P ⟨d, .binOp .rem t x y t2, ty, pos, af, g⟩ env h 0 (fun _ => .v (.int k (a.tmod b))) (fun _ => []) := fs_bin hx hy fun w => by simp [binOp, Op.intDiv, hb]
theorem fs_lss {t t2 : TypeId} {x y : Operand} {k : IntKind} {a b : Int} (hx : evu env x = some (.v (.int k a))) (hy : evu env y = some (.v (.int k b))) :
    FStep P ⟨d, .binOp .lss t x y t2, ty, pos, af, g⟩ env h 0 (fun _ => .b (decide (a < b))) (fun _ => []) := fs_bin hx hy fun w => by simp [binOp, Op.intCmp]
theorem fs_leq {t t2 : TypeId} {x y : Operand} {k : IntKind} {a b : Int} (hx : evu env x = some (.v (.int k a))) (hy : evu env y = some (.v (.int k b))) :
    FStep P ⟨d, .binOp .leq t x y t2, ty, pos, af, g⟩ env h 0 (fun _ => .b (decide (a ≤ b))) (fun _ => []) := fs_bin hx hy fun w => by simp [binOp, Op.intCmp]
theorem fs_gtr {t t2 : TypeId} {x y : Operand} {k : IntKind} {a b : Int} (hx : evu env x = some (.v (.int k a))) (hy : evu env y = some (.v (.int k b))) :
    FStep P ⟨d, .binOp .gtr t x y t2, ty, pos, af, g⟩ env h 0 (fun _ => .b (decide (b < a))) (fun _ => []) := fs_bin hx hy fun w => by simp [binOp, Op.intCmp]
theorem fs_geq {t t2 : TypeId} {x y : Operand} {k : IntKind} {a b : Int} (hx : evu env x = some (.v (.int k a))) (hy : evu env y = some (.v (.int k b))) :
    FStep P ⟨d, .binOp .geq t x y t2, ty, pos, af, g⟩ env h 0 (fun _ => .b (decide (b ≤ a))) (fun _ => []) := fs_bin hx hy fun w => by simp [binOp, Op.intCmp]
theorem fs_eql {t t2 : TypeId} {x y : Operand} {k : IntKind} {a b : Int} (hx : evu env x = some (.v (.int k a))) (hy : evu env y = some (.v (.int k b))) :
    FStep P ⟨d, .binOp .eql t x y t2, ty, pos, af, g⟩ env h 0 (fun _ => .b (decide (a = b))) (fun _ => []) := fs_bin hx hy fun w => by simp [binOp, Op.intCmp]; rfl
theorem fs_neq {t t2 : TypeId} {x y : Operand} {k : IntKind} {a b : Int} (hx : evu env x = some (.v (.int k a))) (hy : evu env y = some (.v (.int k b))) :
    FStep P ⟨d, .binOp .neq t x y t2, ty, pos, af, g⟩ env h 0 (fun _ => .b (!decide (a = b))) (fun _ => []) := fs_bin hx hy fun w => by simp [binOp, Op.intCmp]; rfl
theorem fs_not {t : TypeId} {x : Operand} {b : Bool} (hx : evu env x = some (.b b)) : FStep P ⟨d, .unOp .not t x, ty, pos, af, g⟩ env h 0 (fun _ => .b (!b)) (fun _ => []) := by
  refine fs_val fun ρ S a w p => ⟨.bool !b, ?_, R_v_mk _⟩
  have h1 := R_v (p.evu hx)
  simp [execOp, h1, Op.unary]
/-! ### Variables -/
theorem fs_alloc (T : Tab P) {t : TypeId} {i : TI} (hz : T.ti t = some i) : FStep P ⟨d, .alloc t, ty, pos, af, g⟩ env h 1 (fun p => .ptr p 0) (fun _ => [.cells (i.zero.map .v)]) := by
  refine fs_new fun ρ S a w p => ?_
  obtain ⟨zv, h1, h2⟩ := T.zeroV hz w
  refine ⟨zv.cells, t, .pointer (some ⟨w.heap.size, 0, none⟩), false, ?_, fun pos hpos w' hw' _ => ⟨?_, ?_⟩⟩
  · simp [execOp, Instr.alloc, h1, newVar, newRow]
  · simp [R, Pl.with]
  · simp only [RB]
    refine ⟨_, _, i.zero, rfl, ⟨zv.cells, t, hw', fun j y hy => ?_⟩, RL_of _ _ (by simp) fun j x y hx hy => ?_⟩
    · rw [← h2] at hy; simpa using hy
    · simp only [List.getElem?_map] at hx
      rw [hy] at hx
      simp only [Option.map_some, Option.some.injEq] at hx
      subst hx
      exact R_v_mk y
theorem fs_box {t : TypeId} {x : Operand} {u : AV} {cs : List AV} (hx : evu env x = some u) (hc : u.cellsOf = some cs) : FStep P ⟨d, .box t x, ty, pos, af, g⟩ env h 1 (fun p => .ptr p 0) (fun _ => [.cells cs]) := by
  refine fs_new fun ρ S a w p => ?_
  refine ⟨(a.eval x).cells, t, .pointer (some ⟨w.heap.size, 0, none⟩), false, ?_, fun pos hpos w' hw' l => ⟨?_, ?_⟩⟩
  · simp [execOp, Instr.box, newVar, newRow]
  · simp [R, Pl.with]
  · simp only [RB]
    exact ⟨_, _, (a.eval x).cells.toList, rfl, ⟨_, t, hw', fun j y hy => by simpa using hy⟩, (cellsOf_val (p.evu hx) hc).later l⟩

def behind (h : Hp) : AV → Option (List AV × Nat)
  | .ptr k off => match h[k]? with
    | some (.cells cs) => some (cs, off)
    | _ => none
  | .ep k i off sz => match h[k]? with
    | some (.arr es s) => match Nat.beq s sz with
      | true => match es[i]? with
        | some cs => some (cs, off)
        | none => none
      | false => none
    | _ => none
  | .pr cs off => some (cs, off)
  | _ => none
theorem flatten_at {α : Type} {sz : Nat} : ∀ {es : List (List α)}, (∀ e, e ∈ es → e.length = sz) → ∀ {i : Nat} {c : List α}, es[i]? = some c → ∀ j, j < sz → es.flatten[i * sz + j]? = c[j]?
  | [], _, i, c, hc, j, hj => by simp at hc
  | e :: es, hl, 0, c, hc, j, hj => by
    simp only [List.getElem?_cons_zero, Option.some.injEq] at hc
    subst hc
    simp only [List.flatten_cons, Nat.zero_mul, Nat.zero_add]
    rw [List.getElem?_append_left (by rw [hl e (by simp)]; exact hj)]
  | e :: es, hl, i + 1, c, hc, j, hj => by
    simp only [List.getElem?_cons_succ] at hc
    have h0 := hl e (by simp)
    simp only [List.flatten_cons]
    rw [List.getElem?_append_right (by rw [h0, Nat.add_mul]; omega), h0, show (i + 1) * sz + j - sz = i * sz + j by rw [Nat.add_mul]; omega]
    exact flatten_at (fun e he => hl e (by simp [he])) hc j hj

theorem behind_val {S : Nat → Prop} {w : World} {ρ : Pl} {x : AV} {y : Value} {cs : List AV} {off : Nat} (hb : ∀ (k : Nat) b, h[k]? = some b → RB S w ρ (ρ k) b) (hy : R S w x ρ y) (hc : behind h x = some (cs, off)) :
    ∃ b o ρ', y = .pointer (some ⟨b, o + off, none⟩) ∧ ∀ (j : Nat) u, cs[j]? = some u → ∃ v, w.cell? ⟨b, o + j, none⟩ = some v ∧ R S w u ρ' v ∧ ((ρ' = fun _ => none) ∨ ρ' = ρ) := by
  have cellOf : ∀ {b o j : Nat} {ys : List Value} {v : Value}, lies w b o ys → ys[j]? = some v → w.cell? ⟨b, o + j, none⟩ = some v := fun {b o j ys v} hl hv => by
    obtain ⟨c, e, fz, h1, h2⟩ := hl
    simp [World.cell?, h1, h2 j v hv]
  cases x with
  | ptr k off' =>
    simp only [behind] at hc
    split at hc
    · rename_i cs' hk
      simp only [Option.some.injEq, Prod.mk.injEq] at hc
      obtain ⟨rfl, rfl⟩ := hc
      simp only [R] at hy
      obtain ⟨b, o, h1, rfl⟩ := hy
      have h2 := hb k _ hk
      simp only [RB, h1] at h2
      obtain ⟨b', o', ys, h3, h4, h5⟩ := h2
      simp only [Option.some.injEq, Prod.mk.injEq] at h3
      obtain ⟨rfl, rfl⟩ := h3
      refine ⟨b, o, ρ, rfl, fun j u hu => ?_⟩
      obtain ⟨v, h6, h7⟩ := RL_get h5 j u hu
      exact ⟨v, cellOf h4.lies h6, h7, .inr rfl⟩
    · cases hc
  | ep k i off' sz =>
    simp only [behind] at hc
    split at hc
    · rename_i es sz' hk
      split at hc
      · rename_i hbeq
        have hsz := Nat.eq_of_beq_eq_true hbeq
        subst hsz
        split at hc
        case h_2 => cases hc
        rename_i cs' hi
        simp only [Option.some.injEq, Prod.mk.injEq] at hc
        obtain ⟨rfl, rfl⟩ := hc
        simp only [R] at hy
        obtain ⟨b, o, h1, rfl⟩ := hy
        have h2 := hb k _ hk
        simp only [RB, h1] at h2
        obtain ⟨h20, _, h2⟩ := h2
        rcases h2 with h2 | ⟨b', o', ys, h3, h4, h5⟩
        · obtain ⟨h2, _⟩ := h2; subst h2; simp at hi
        simp only [Option.some.injEq, Prod.mk.injEq] at h3
        obtain ⟨rfl, rfl⟩ := h3
        refine ⟨b, o + i * sz', ρ, by rw [Nat.add_assoc], fun j u hu => ?_⟩
        have hl := h20 _ (List.mem_of_getElem? hi)
        have hj : j < sz' := by rw [← hl]; exact (List.getElem?_eq_some_iff.1 hu).1
        obtain ⟨v, h6, h7⟩ := RL_get h5 (i * sz' + j) u (by rw [flatten_at h20 hi j hj]; exact hu)
        exact ⟨v, by rw [Nat.add_assoc]; exact cellOf h4.lies h6, h7, .inr rfl⟩
      · cases hc
    · cases hc
  | pr cs' off' =>
    simp only [behind, Option.some.injEq, Prod.mk.injEq] at hc
    obtain ⟨rfl, rfl⟩ := hc
    simp only [R] at hy
    obtain ⟨b, o, ys, rfl, _, h3, h4⟩ := hy
    refine ⟨b, o, fun _ => none, rfl, fun j u hu => ?_⟩
    obtain ⟨v, h6, h7⟩ := RL_get h4 j u hu
    exact ⟨v, cellOf h3 h6, h7, .inl rfl⟩
  | _ => simp [behind] at hc

end
end Go.Ab

/-! A logic of values for the walk, fourth part: loads, addresses, composite values. -/
namespace Go.Ab
open Go
set_option linter.unusedVariables false
set_option linter.unusedSimpArgs false

section
variable {P : Program} {env : Env} {h : Hp}
variable {d : Option Nat} {ty : TypeId} {pos : String} {af : Array Edge} {g : Option (Nat × Bool)}

def grab (cs : List AV) (off : Nat) : Nat → Option (List AV)
  | 0 => some []
  | n + 1 => match cs[off]?, grab cs (off + 1) n with
    | some x, some r => some (x :: r)
    | _, _ => none
theorem grab_get : ∀ {n : Nat} {cs : List AV} {off : Nat} {zs : List AV}, grab cs off n = some zs → zs.length = n ∧ ∀ j, j < n → cs[off + j]? = zs[j]?
  | 0, cs, off, zs, h => by simp only [grab, Option.some.injEq] at h; subst h; simp
  | n + 1, cs, off, zs, h => by
    simp only [grab] at h
    split at h
    · rename_i x r h1 h2
      cases h
      obtain ⟨h3, h4⟩ := grab_get h2
      refine ⟨by simp [h3], fun j hj => ?_⟩
      cases j with
      | zero => simpa using h1
      | succ j =>
        have := h4 j (by omega)
        rw [show off + (j + 1) = off + 1 + j by omega, this]; simp
    · cases h
theorem R_none {S : Nat → Prop} {w : World} {ρ : Pl} {x : AV} {y : Value} (h : R S w x (fun _ => none) y) : R S w x ρ y :=
  R_later (fun _ h => h) (fun _ _ => rfl) x _ ρ y (fun _ _ h => by cases h) (fun _ _ _ _ h => by cases h) h

theorem run_loadCells' {w : World} {b o : Nat} : ∀ (ys : List Value) (i : Nat) (acc : Array Value), (∀ j y, ys[j]? = some y → w.cell? ⟨b, o + (i + j), none⟩ = some y) → (loadCellsFrom ⟨b, o, none⟩ i ys.length acc).run P w = .ok (acc ++ ys.toArray) w
  | [], i, acc, _ => by simp [loadCellsFrom]
  | y :: ys, i, acc, hy => by
    have h0 := hy 0 y (by simp)
    simp only [Nat.add_zero] at h0
    simp only [List.length_cons, loadCellsFrom, Sem.run_bind, Addr.add_lit, run_load, h0, Result.andThen_ok]
    rw [run_loadCells' ys (i + 1) (acc.push y) (fun j z hz => by have := hy (j + 1) z (by simpa using hz); rwa [show i + 1 + j = i + (j + 1) by omega])]
    simp

def loadAV (i : TI) (cs : List AV) (off : Nat) : Option AV := match i.agg with
  | true => match grab cs off i.size with
    | some zs => some (.agg zs)
    | none => none
  | false => cs[off]?
theorem load_val (T : Tab P) {S : Nat → Prop} {w : World} {ρ : Pl} {t : Nat} {i : TI} (ht : T.ti t = some i) {x z : AV} {y : Value} {cs : List AV} {off : Nat} (hb : ∀ (k : Nat) b, h[k]? = some b → RB S w ρ (ρ k) b) (hy : R S w x ρ y) (hc : behind h x = some (cs, off)) (hz : loadAV i cs off = some z) :
    ∃ v, (Instr.loadAt t y).run P w = .ok v w ∧ R S w z ρ v := by
  obtain ⟨b, o, ρ', rfl, hcell⟩ := behind_val hb hy hc
  have up : ∀ {u : AV} {v : Value}, R S w u ρ' v → ((ρ' = fun _ => none) ∨ ρ' = ρ) → R S w u ρ v := fun {u v} hu hρ => by
    rcases hρ with rfl | rfl
    · exact R_none hu
    · exact hu
  unfold loadAV at hz
  split at hz
  · rename_i hagg
    split at hz
    · rename_i zs hg
      simp only [Option.some.injEq] at hz
      subst hz
      obtain ⟨h1, h2⟩ := grab_get hg
      have key : ∀ (l : List AV) (off : Nat), (∀ j, j < l.length → cs[off + j]? = l[j]?) → ∃ ys : List Value, ys.length = l.length ∧ (∀ j v, ys[j]? = some v → w.cell? ⟨b, o + (off + j), none⟩ = some v) ∧ RL S w l ρ ys := by
        intro l
        induction l with
        | nil => exact fun _ _ => ⟨[], rfl, fun j v hv => by simp at hv, by simp [RL]⟩
        | cons u l ih =>
          intro off hl
          obtain ⟨ys, h3, h4, h5⟩ := ih (off + 1) (fun j hj => by
            have := hl (j + 1) (by simpa using hj)
            rw [show off + 1 + j = off + (j + 1) by omega, this]; simp)
          obtain ⟨v, h6, h7, h8⟩ := hcell off u (by simpa using hl 0 (by simp))
          refine ⟨v :: ys, by simp [h3], fun j u' hu' => ?_, by simp only [RL]; exact ⟨v, ys, rfl, up h7 h8, h5⟩⟩
          cases j with
          | zero => simp at hu'; subst hu'; simpa using h6
          | succ j => have := h4 j u' (by simpa using hu'); rwa [show off + (j + 1) = off + 1 + j by omega]
      obtain ⟨ys, h3, h4, h5⟩ := key zs off (fun j hj => h2 j (by omega))
      refine ⟨.agg ys.toArray, ?_, by simp only [R]; exact ⟨_, rfl, h5⟩⟩
      have := run_loadCells' (P := P) (w := w) (b := b) (o := o + off) ys 0 #[] (fun j v hv => by have := h4 j v hv; rwa [show o + off + (0 + j) = o + (off + j) by omega])
      rw [h3, h1] at this
      simp [Instr.loadAt, Instr.sureAddr, loadVar, T.agg ht, hagg, T.sizeOf ht, loadCells, this]
    · cases hz
  · rename_i hagg
    obtain ⟨v, h6, h7, h8⟩ := hcell off z hz
    exact ⟨v, by simp [Instr.loadAt, Instr.sureAddr, loadVar, T.agg ht, hagg, h6], up h7 h8⟩

theorem fs_load (T : Tab P) {t : Nat} {i : TI} {x : Operand} {u z : AV} {cs : List AV} {off : Nat} (hx : evu env x = some u) (ht : T.ti t = some i) (hb : behind h u = some (cs, off)) (hz : loadAV i cs off = some z) :
    FStep P ⟨d, .load t x, ty, pos, af, g⟩ env h 0 (fun _ => z) (fun _ => []) := by
  refine fs_val fun ρ S a w p => ?_
  obtain ⟨v, h1, h2⟩ := load_val T ht p.blk (p.evu hx) hb hz
  exact ⟨v, by simp [execOp, h1], h2⟩

def AV.plus : AV → Nat → Option AV
  | .ptr k off, n => some (.ptr k (off + n))
  | .ep k i off sz, n => some (.ep k i (off + n) sz)
  | .pr cs off, n => some (.pr cs (off + n))
  | _, _ => none
theorem plus_val {S : Nat → Prop} {w : World} {ρ : Pl} {x z : AV} {n : Nat} {y : Value} (h : R S w x ρ y) (hz : x.plus n = some z) : ∃ b o, y = .pointer (some ⟨b, o, none⟩) ∧ R S w z ρ (.pointer (some ⟨b, o + n, none⟩)) := by
  cases x <;> simp only [AV.plus, Option.some.injEq] at hz <;> try (cases hz; done)
  all_goals subst hz
  · simp only [R] at h ⊢
    obtain ⟨b, o, h1, rfl⟩ := h
    exact ⟨b, _, rfl, b, o, h1, by rw [Nat.add_assoc]⟩
  · simp only [R] at h ⊢
    obtain ⟨b, o, h1, rfl⟩ := h
    exact ⟨b, _, rfl, b, o, h1, by rw [Nat.add_assoc, Nat.add_assoc]⟩
  · simp only [R] at h ⊢
    obtain ⟨b, o, ys, rfl, h2, h3, h4⟩ := h
    exact ⟨b, _, rfl, b, o, ys, by rw [Nat.add_assoc], h2, h3, h4⟩

theorem fs_fieldAddr (T : Tab P) {t f n : Nat} {x : Operand} {u z : AV} (hx : evu env x = some u) (hf : T.field t f = some n) (hz : u.plus n = some z) :
    FStep P ⟨d, .fieldAddr t x f, ty, pos, af, g⟩ env h 0 (fun _ => z) (fun _ => []) := by
  refine fs_val fun ρ S a w p => ?_
  obtain ⟨b, o, h1, h2⟩ := plus_val (p.evu hx) hz
  obtain ⟨fs, fd, inf, h3, h4, h5, h6, h7⟩ := T.fieldOk t f n hf
  exact ⟨_, by simp [execOp, h1, Instr.fieldAt, run_underlying h3, h4, Instr.sureAddr, fieldPlace, Go.sizeOf, typeInfo, h6, h7, Addr.add_lit, h5], h2⟩

theorem fs_nilCheck {x : Operand} {u z : AV} (hx : evu env x = some u) (hz : u.plus 0 = some z) : FStep P ⟨d, .nilCheck x, ty, pos, af, g⟩ env h 0 (fun _ => u) (fun _ => []) := by
  refine fs_val fun ρ S a w p => ?_
  obtain ⟨b, o, h1, h2⟩ := plus_val (p.evu hx) hz
  have h3 := p.evu hx
  rw [h1] at h3
  exact ⟨_, by simp [execOp, h1], h3⟩

theorem fs_extract {x : Operand} {vs : List AV} {j : Nat} {z : AV} (hx : evu env x = some (.tup vs)) (hz : vs[j]? = some z) : FStep P ⟨d, .extract x j, ty, pos, af, g⟩ env h 0 (fun _ => z) (fun _ => []) := by
  refine fs_val fun ρ S a w p => ?_
  have h1 := p.evu hx
  simp only [R] at h1
  obtain ⟨ys, h2, h3⟩ := h1
  obtain ⟨v, h4, h5⟩ := RL_get h3 j z hz
  refine ⟨v, ?_, h5⟩
  simp only [Array.getElem?_toList] at h4
  simp [execOp, h2, Instr.extract, h4]

theorem fs_indexOwn (T : Tab P) {t e k off len sz : Nat} {i : TI} {x y : Operand} {kk : IntKind} {j : Int} (hx : evu env x = some (.sl k off len sz)) (hy : evu env y = some (.v (.int kk j))) (ha : T.elem t = some e) (he : T.ti e = some i) (hs : i.size = sz) (h0 : 0 ≤ j) (h1 : j < len) :
    FStep P ⟨d, .indexAddr t x y, ty, pos, af, g⟩ env h 0 (fun _ => .ep k (off + j.toNat) 0 sz) (fun _ => []) := by
  refine fs_val fun ρ S a w p => ?_
  have h2 := p.evu hx
  simp only [R] at h2
  obtain ⟨ad, cap, h3, hcm, h4⟩ := h2
  rcases h4 with ⟨h4, _⟩ | ⟨b, o, h5, h6, h7, h8⟩
  · omega
  have h9 := R_v (p.evu hy)
  subst h6
  refine ⟨.pointer (some ⟨b, o + off * sz + j.toNat * sz, none⟩), by simp [execOp, h3, h9, Instr.indexAt, asIntOf, run_underlying (T.elemOk _ _ ha), h0, h1, T.sizeOf he, Addr.add_lit, hs], ?_⟩
  simp only [R]
  exact ⟨b, o, h5, by rw [Nat.add_mul]; simp only [Nat.add_zero, Nat.add_assoc]⟩

theorem fs_indexRow (T : Tab P) {t e len sz : Nat} {cs : List AV} {i : TI} {x y : Operand} {kk : IntKind} {j : Int} (hx : evu env x = some (.row cs len sz)) (hy : evu env y = some (.v (.int kk j))) (ha : T.elem t = some e) (he : T.ti e = some i) (hs : i.size = sz) (h0 : 0 ≤ j) (h1 : j < len) :
    FStep P ⟨d, .indexAddr t x y, ty, pos, af, g⟩ env h 0 (fun _ => .pr cs (j.toNat * sz)) (fun _ => []) := by
  refine fs_val fun ρ S a w p => ?_
  have h2 := p.evu hx
  simp only [R] at h2
  obtain ⟨ad, cap, h3, _, _, _, _, h4⟩ := h2
  rcases h4 with h4 | ⟨b, o, ys, h5, h6, h7, h8⟩
  · omega
  have h9 := R_v (p.evu hy)
  subst h5
  refine ⟨.pointer (some ⟨b, o + j.toNat * sz, none⟩), by simp [execOp, h3, h9, Instr.indexAt, asIntOf, run_underlying (T.elemOk _ _ ha), h0, h1, T.sizeOf he, Addr.add_lit, hs], ?_⟩
  simp only [R]
  exact ⟨b, o, ys, rfl, h6, h7, h8⟩

theorem pr_elem {S : Nat → Prop} {w : World} {ρ : Pl} {es : List (List AV)} {sz j : Nat} {c : List AV} {y : Value} (hl : ∀ e, e ∈ es → e.length = sz) (hc : es[j]? = some c) (h : R S w (.pr es.flatten (j * sz)) ρ y) : R S w (.pr c 0) ρ y := by
  simp only [R] at h ⊢
  obtain ⟨b, o, ys, h1, h2, ⟨cc, e, fz, h3, h4⟩, h5⟩ := h
  refine ⟨b, o + j * sz, (ys.drop (j * sz)).take sz, by simpa using h1, h2, ⟨cc, e, fz, h3, fun i y hy => ?_⟩, ?_⟩
  · rw [List.getElem?_take] at hy
    split at hy
    · rw [List.getElem?_drop] at hy
      rw [Nat.add_assoc]; exact h4 _ _ hy
    · cases hy
  · have := RL_take (RL_drop h5 (j * sz)) sz
    have hce : (es.flatten.drop (j * sz)).take sz = c := by
      apply List.ext_getElem?
      intro i
      rw [List.getElem?_take]
      split
      · rename_i hi; rw [List.getElem?_drop, flatten_at hl hc i hi]
      · have := hl c (List.mem_of_getElem? hc)
        rw [List.getElem?_eq_none (by omega)]
    rwa [hce] at this

theorem fs_indexRowE (T : Tab P) {t e sz : Nat} {es : List (List AV)} {c : List AV} {i : TI} {x y : Operand} {kk : IntKind} {j : Int} (hx : evu env x = some (.rowE es sz)) (hy : evu env y = some (.v (.int kk j))) (ha : T.elem t = some e) (he : T.ti e = some i) (hs : i.size = sz) (h0 : 0 ≤ j) (hl : ∀ e, e ∈ es → e.length = sz) (hc : es[j.toNat]? = some c) :
    FStep P ⟨d, .indexAddr t x y, ty, pos, af, g⟩ env h 0 (fun _ => .pr c 0) (fun _ => []) := by
  intro ρ S a w p q hq K Q hk
  have hlt : j < es.length := by have := (List.getElem?_eq_some_iff.1 hc).1; omega
  refine fs_indexRow T hx hy ha he hs h0 hlt ρ S a w p q hq K Q fun y ρ' S' w' po => hk y ρ' S' w' ⟨po.ext, po.len, po.keep, po.st, po.stn, po.fresh, po.inj, pr_elem hl hc po.val, po.blk⟩

theorem fs_lenOwn (T : Tab P) {t e k off len sz : Nat} {x : Operand} (hx : evu env x = some (.sl k off len sz)) (ha : T.elem t = some e) :
    FStep P ⟨d, .call { callee := .builtin .len, args := #[x], argTypes := #[t] }, ty, pos, af, g⟩ env h 0 (fun _ => .i len) (fun _ => []) := by
  refine fs_val fun ρ S a w p => ⟨.int .i64 len, ?_, R_v_mk _⟩
  have h2 := p.evu hx
  simp only [R] at h2
  obtain ⟨ad, cap, h3, _⟩ := h2
  simp [execOp, resolve, invoke, builtin, h3, Builtin.len_, run_underlying (T.elemOk _ _ ha), goInt]
theorem fs_lenRow (T : Tab P) {t e len sz : Nat} {cs : List AV} {x : Operand} (hx : evu env x = some (.row cs len sz)) (ha : T.elem t = some e) :
    FStep P ⟨d, .call { callee := .builtin .len, args := #[x], argTypes := #[t] }, ty, pos, af, g⟩ env h 0 (fun _ => .i len) (fun _ => []) := by
  refine fs_val fun ρ S a w p => ⟨.int .i64 len, ?_, R_v_mk _⟩
  have h2 := p.evu hx
  simp only [R] at h2
  obtain ⟨ad, cap, h3, _⟩ := h2
  simp [execOp, resolve, invoke, builtin, h3, Builtin.len_, run_underlying (T.elemOk _ _ ha), goInt]
theorem fs_lenNil (T : Tab P) {t e : Nat} {x : Operand} (hx : evu env x = some .nils) (ha : T.elem t = some e) :
    FStep P ⟨d, .call { callee := .builtin .len, args := #[x], argTypes := #[t] }, ty, pos, af, g⟩ env h 0 (fun _ => .i 0) (fun _ => []) := by
  refine fs_val fun ρ S a w p => ⟨.int .i64 0, ?_, R_v_mk _⟩
  have h2 := R_v (p.evu hx)
  simp [execOp, resolve, invoke, builtin, h2, Builtin.len_, run_underlying (T.elemOk _ _ ha), goInt]
theorem fs_max {t1 t2 : Nat} {x y : Operand} {k : IntKind} {a b : Int} (hx : evu env x = some (.v (.int k a))) (hy : evu env y = some (.v (.int k b))) :
    FStep P ⟨d, .call { callee := .builtin .max, args := #[x, y], argTypes := #[t1, t2] }, ty, pos, af, g⟩ env h 0 (fun _ => .v (.int k (max a b))) (fun _ => []) := by
  refine fs_val fun ρ S ac w p => ⟨.int k (max a b), ?_, R_v_mk _⟩
  have h1 := R_v (p.evu hx)
  have h2 := R_v (p.evu hy)
  have e : (if a < b then b else a) = max a b := by split <;> omega
  simp [execOp, resolve, invoke, builtin, h1, h2, run_max_int2, e]
theorem fs_min {t1 t2 : Nat} {x y : Operand} {k : IntKind} {a b : Int} (hx : evu env x = some (.v (.int k a))) (hy : evu env y = some (.v (.int k b))) :
    FStep P ⟨d, .call { callee := .builtin .min, args := #[x, y], argTypes := #[t1, t2] }, ty, pos, af, g⟩ env h 0 (fun _ => .v (.int k (min a b))) (fun _ => []) := by
  refine fs_val fun ρ S ac w p => ⟨.int k (min a b), ?_, R_v_mk _⟩
  have h1 := R_v (p.evu hx)
  have h2 := R_v (p.evu hy)
  have e : (if b < a then b else a) = min a b := by split <;> omega
  simp [execOp, resolve, invoke, builtin, h1, h2, run_min_int2, e]

end
end Go.Ab

/-! A logic of values for the walk, fifth part: composite values, slices that are made, stores, append. -/
namespace Go.Ab
open Go
set_option linter.unusedVariables false
set_option linter.unusedSimpArgs false

section
variable {P : Program} {env : Env} {h : Hp}
variable {d : Option Nat} {ty : TypeId} {pos : String} {af : Array Edge} {g : Option (Nat × Bool)}

def putAt {α : Type} : List α → Nat → List α → List α
  | cs, _, [] => cs
  | cs, off, x :: xs => putAt (cs.set off x) (off + 1) xs
theorem length_putAt {α : Type} : ∀ (xs cs : List α) (off : Nat), (putAt cs off xs).length = cs.length
  | [], _, _ => rfl
  | x :: xs, cs, off => by simp only [putAt]; rw [length_putAt xs]; simp
theorem RL_put {S : Nat → Prop} {w : World} {ρ : Pl} : ∀ {xs : List AV} {ys : List Value} {cs : List AV} {vs : List Value} {off : Nat}, RL S w cs ρ vs → RL S w xs ρ ys → RL S w (putAt cs off xs) ρ (putAt vs off ys)
  | [], ys, cs, vs, off, h, hx => by simp only [RL] at hx; subst hx; exact h
  | x :: xs, ys, cs, vs, off, h, hx => by
    simp only [RL] at hx
    obtain ⟨y, zs, rfl, h1, h2⟩ := hx
    simp only [putAt]
    exact RL_put (RL_set h off h1) h2
theorem putAt_eq {α : Type} : ∀ (ys vs : List α) (off : Nat), off + ys.length ≤ vs.length → putAt vs off ys = vs.take off ++ ys ++ vs.drop (off + ys.length)
  | [], vs, off, _ => by simp [putAt]
  | y :: ys, vs, off, hl => by
    simp only [putAt]
    have hlt : off < vs.length := by simp at hl; omega
    rw [putAt_eq ys (vs.set off y) (off + 1) (by simp at hl ⊢; omega)]
    rw [List.drop_set_of_lt (by omega), List.take_set]
    have : vs.take (off + 1) = vs.take off ++ [vs[off]] := by rw [List.take_succ_eq_append_getElem hlt]
    rw [this, List.set_append_right _ _ (by simp; omega)]
    simp only [List.length_take, List.length_cons, List.append_assoc]
    rw [show off - min off vs.length = 0 by omega]
    simp only [List.set_cons_zero, List.cons_append, List.nil_append]
    rw [show off + 1 + ys.length = off + (ys.length + 1) by omega]

def fillA (place : Nat → Option (Nat × Nat)) : List AV → List (Nat × List AV) → Option (List AV)
  | cs, [] => some cs
  | cs, (i, xs) :: rest => match place i with
    | some (off, size) => match Nat.beq xs.length size, Nat.ble (off + size) cs.length with
      | true, true => fillA place (putAt cs off xs) rest
      | _, _ => none
    | none => none

theorem foldl_put (ys : List Value) : ∀ (vs : Array Value) (off j0 : Nat), ((ys.zipIdx j0).foldl (fun (cs : Array Value) (p : Value × Nat) => cs.setIfInBounds (off + p.2) p.1) vs).toList = putAt vs.toList (off + j0) ys := by
  induction ys with
  | nil => intro vs off j0; simp [putAt]
  | cons y ys ih =>
    intro vs off j0
    simp only [List.zipIdx_cons, List.foldl_cons, putAt]
    rw [ih]
    simp [Nat.add_assoc]

inductive Parts (S : Nat → Prop) (w : World) (ρ : Pl) : List (Nat × List AV) → List (Nat × Value) → Prop
  | nil : Parts S w ρ [] []
  | cons {i : Nat} {xs : List AV} {y : Value} {as : List (Nat × List AV)} {bs : List (Nat × Value)} : RL S w xs ρ y.cells.toList → Parts S w ρ as bs → Parts S w ρ ((i, xs) :: as) ((i, y) :: bs)

theorem fill_val {S : Nat → Prop} {w : World} {ρ : Pl} {place : Nat → Option (Nat × Nat)} : ∀ {as : List (Nat × List AV)} {bs : List (Nat × Value)} {cs zs : List AV} {vs : Array Value}, Parts S w ρ as bs → RL S w cs ρ vs.toList → fillA place cs as = some zs →
    ∃ us : Array Value, Instr.fill place vs bs = some us ∧ RL S w zs ρ us.toList := by
  intro as
  induction as with
  | nil =>
    intro bs cs zs vs hp hcs hf
    cases hp
    simp only [fillA, Option.some.injEq] at hf
    subst hf
    exact ⟨vs, rfl, hcs⟩
  | cons a as ih =>
    intro bs cs zs vs hp hcs hf
    cases hp with
    | @cons i xs y as bs h1 h2 =>
      simp only [fillA] at hf
      split at hf
      · rename_i off size hpl
        split at hf
        · rename_i hb1 hb2
          have e1 := Nat.eq_of_beq_eq_true hb1
          have e2 := Nat.le_of_ble_eq_true hb2
          have l1 := RL_length h1
          have l2 := RL_length hcs
          simp only [Array.length_toList] at l1 l2
          have hput := foldl_put y.cells.toList vs off 0
          simp only [Nat.add_zero] at hput
          have := RL_put (off := off) hcs h1
          rw [← hput] at this
          obtain ⟨us, h3, h4⟩ := ih h2 this hf
          refine ⟨us, ?_, h4⟩
          simp only [Instr.fill, hpl]
          rw [if_neg (by simp; omega)]
          rw [← h3]
          congr 1
          rw [← Array.foldl_toList]
          simp
        · cases hf
      · cases hf

def evParts (env : Env) : List (Nat × Operand) → Option (List (Nat × List AV))
  | [] => some []
  | (i, x) :: r => match evu env x with
    | some u => match u.cellsOf, evParts env r with
      | some xs, some as => some ((i, xs) :: as)
      | _, _ => none
    | none => none
theorem parts_val {ρ : Pl} {S : Nat → Prop} {a : Act} {w : World} (p : Pre ρ S env h a w) : ∀ {l : List (Nat × Operand)} {as : List (Nat × List AV)}, evParts env l = some as → Parts S w ρ as (l.map fun (i, x) => (i, a.eval x))
  | [], as, hl => by simp only [evParts, Option.some.injEq] at hl; subst hl; exact .nil
  | (i, x) :: r, as, hl => by
    simp only [evParts] at hl
    split at hl
    · rename_i u hu
      split at hl
      · rename_i xs as' h1 h2
        cases hl
        exact .cons (cellsOf_val (p.evu hu) h1) (parts_val p h2)
      · cases hl
    · cases hl

theorem RL_vs {S : Nat → Prop} {w : World} {ρ : Pl} : ∀ (l : List Value), RL S w (l.map .v) ρ l
  | [] => by simp [RL]
  | x :: l => by simp only [List.map_cons, RL]; exact ⟨x, l, rfl, R_v_mk x, RL_vs l⟩

theorem fs_build (T : Tab P) {t : Nat} {i : TI} {pl : List (Nat × Nat)} {l : List (Nat × Operand)} {as : List (Nat × List AV)} {zs : List AV} (ht : T.ti t = some i) (hpl : T.places t = some pl) (hl : evParts env l = some as) (hz : fillA (pl[·]?) (i.zero.map .v) as = some zs) :
    FStep P ⟨d, .build t l.toArray, ty, pos, af, g⟩ env h 0 (fun _ => .agg zs) (fun _ => []) := by
  refine fs_val fun ρ S a w p => ?_
  obtain ⟨inf, z, h1, h2, h3, h4, h5, h6, h7⟩ := T.tiOk t i ht
  have h8 := T.placesOk t pl hpl
  unfold placesP at h8
  split at h8
  · rename_i fields hu
    obtain ⟨us, h9, h10⟩ := fill_val (vs := z.cells) (parts_val p hl) (by rw [h5]; exact RL_vs i.zero) hz
    have hb : P.built t (l.map fun (i, x) => (i, a.eval x)) = some us := by
      unfold Program.built
      simp only [h1, hu, h4, h8]
      simpa using h9
    refine ⟨.agg us, ?_, by simp only [R]; exact ⟨us, rfl, h10⟩⟩
    simp only [execOp, Sem.run_bind]
    rw [run_build w t _ us (by simpa using hb)]
    rfl
  · cases h8
theorem fs_buildArr (T : Tab P) {t n e : Nat} {i ie : TI} {l : List (Nat × Operand)} {as : List (Nat × List AV)} {zs : List AV} (ht : T.ti t = some i) (ha : T.arr t = some (n, e)) (he : T.ti e = some ie) (hl : evParts env l = some as) (hz : fillA (fun j => some (j * ie.size, ie.size)) (i.zero.map .v) as = some zs) :
    FStep P ⟨d, .build t l.toArray, ty, pos, af, g⟩ env h 0 (fun _ => .agg zs) (fun _ => []) := by
  refine fs_val fun ρ S a w p => ?_
  obtain ⟨inf, z, h1, h2, h3, h4, h5, h6, h7⟩ := T.tiOk t i ht
  obtain ⟨inf', z', h1', h2', _⟩ := T.tiOk e ie he
  obtain ⟨us, h9, h10⟩ := fill_val (vs := z.cells) (parts_val p hl) (by rw [h5]; exact RL_vs i.zero) hz
  have hb : P.built t (l.map fun (i, x) => (i, a.eval x)) = some us := by
    unfold Program.built
    simp only [h1, T.arrOk t n e ha, h4, h1', h2']
    exact h9
  refine ⟨.agg us, ?_, by simp only [R]; exact ⟨us, rfl, h10⟩⟩
  simp only [execOp, Sem.run_bind]
  rw [run_build w t _ us (by simpa using hb)]
  rfl

/-! ### New slices -/
theorem fs_newSlice {o : Oper} {es : List (List AV)} {sz : Nat} (hsz : 0 < sz) (hes : ∀ e, e ∈ es → e.length = sz)
    (hrun : ∀ ρ S a w, Pre ρ S env h a w → ∃ (c : Array Value) (e : TypeId) (cap : Nat) (dr : Bool) (ys : List Value), (execOp a.eval o).run P w = .ok (.value (.slice (some ⟨w.heap.size, 0, none⟩) es.length cap)) ((if dr then w.drew else w).alloc (.cells c e)) ∧
      es.length ≤ cap ∧ cap ≤ maxLen ∧ cap * sz ≤ c.size ∧ (∀ (j : Nat) (y : Value), ys[j]? = some y → c[j]? = some y) ∧ RL S w es.flatten ρ ys) :
    FStep P o env h 1 (fun p => .sl p 0 es.length sz) (fun _ => [.arr es sz]) := by
  refine fs_new fun ρ S a w p => ?_
  obtain ⟨c, e, cap, dr, ys, h1, h2, h3, h4, h5, h6⟩ := hrun ρ S a w p
  refine ⟨c, e, _, dr, h1, fun pos hpos w' hw' l => ⟨?_, ?_⟩⟩
  · simp only [R]
    refine ⟨_, cap, rfl, h3, .inr ⟨w.heap.size, 0, by simp [Pl.with], by simp, h2, c, e, _, hw', by simp only [Nat.zero_add]; exact h4⟩⟩
  · simp only [RB]
    exact ⟨hes, hsz, .inr ⟨_, _, ys, rfl, ⟨c, e, hw', fun j y hy => by rw [Nat.zero_add]; exact h5 j y hy⟩, h6.later l⟩⟩

theorem length_flatten_of {α : Type} {sz : Nat} : ∀ {es : List (List α)}, (∀ e, e ∈ es → e.length = sz) → es.flatten.length = es.length * sz
  | [], _ => by simp
  | e :: es, h => by
    have ih := length_flatten_of (es := es) (fun e he => h e (List.mem_cons_of_mem _ he))
    have h0 := h e (List.mem_cons_self)
    rw [List.flatten_cons, List.length_append, List.length_cons, ih, h0, Nat.add_mul]
    omega
theorem flatten_replicate_get {α : Type} (z : List α) : ∀ (n j : Nat) (x : α), (List.replicate n z).flatten[j]? = some x → j < n * z.length ∧ z[j % z.length]? = some x
  | 0, j, x, h => by simp at h
  | n + 1, j, x, h => by
    simp only [List.replicate_succ, List.flatten_cons] at h
    by_cases hj : j < z.length
    · rw [List.getElem?_append_left hj] at h
      exact ⟨by rw [Nat.add_mul]; omega, by rw [Nat.mod_eq_of_lt hj]; exact h⟩
    · rw [List.getElem?_append_right (by omega)] at h
      obtain ⟨h1, h2⟩ := flatten_replicate_get z n _ x h
      refine ⟨by rw [Nat.add_mul]; omega, ?_⟩
      rw [← h2, ← Nat.mod_eq_sub_mod (by omega)]

theorem madeCells_get {z : Array Value} {n j : Nat} {y : Value} (hj : j < n) (hy : z.toList[j % z.size]? = some y) : (madeCells z n)[j]? = some y := by
  simp only [madeCells, Array.getElem?_map]
  rw [Array.getElem?_range, if_pos hj]
  simp only [Option.map_some, Option.some.injEq]
  simp only [Array.getElem?_toList] at hy
  rw [getElem!_def, hy]

def fillE : List (List AV) → List (Nat × List AV) → Option (List (List AV))
  | es, [] => some es
  | es, (i, xs) :: rest => match es[i]? with
    | some e => match Nat.beq xs.length e.length with
      | true => fillE (es.set i xs) rest
      | false => none
    | none => none

theorem putAt_flatten {sz : Nat} : ∀ {es : List (List AV)}, (∀ e, e ∈ es → e.length = sz) → ∀ {i : Nat} {e : List AV}, es[i]? = some e → ∀ {off : Nat} {xs : List AV}, off + xs.length ≤ sz → putAt es.flatten (i * sz + off) xs = (es.set i (putAt e off xs)).flatten := by
  intro es hl i e hi off xs
  induction xs generalizing es e off with
  | nil => intro _; simp only [putAt]; rw [show es.set i e = es from List.ext_getElem? fun j => by
        rw [List.getElem?_set]
        split
        · rename_i e0; subst e0; rw [hi, if_pos (List.getElem?_eq_some_iff.1 hi).1]
        · rfl]
  | cons x xs ih =>
    intro hle
    simp only [putAt]
    have hlen := hl e (List.mem_of_getElem? hi)
    have hset : es.flatten.set (i * sz + off) x = (es.set i (e.set off x)).flatten := by
      clear ih
      induction es generalizing i with
      | nil => simp at hi
      | cons e' es ih2 =>
        have he' := hl e' (by simp)
        cases i with
        | zero =>
          simp only [List.getElem?_cons_zero, Option.some.injEq] at hi
          subst hi
          simp only [List.flatten_cons, List.set_cons_zero, Nat.zero_mul, Nat.zero_add]
          rw [List.set_append_left _ _ (by simp at hle; omega)]
        | succ i =>
          simp only [List.getElem?_cons_succ] at hi
          simp only [List.flatten_cons, List.set_cons_succ]
          rw [List.set_append_right _ _ (by rw [he', Nat.add_mul]; omega), he', show (i + 1) * sz + off - sz = i * sz + off by rw [Nat.add_mul]; omega, ih2 (fun e he => hl e (by simp [he])) hi]
    rw [hset]
    have hlt : i < es.length := (List.getElem?_eq_some_iff.1 hi).1
    have := ih (es := es.set i (e.set off x)) (e := e.set off x) (off := off + 1) (fun e1 he1 => by
      rcases List.mem_or_eq_of_mem_set he1 with h1 | h1
      · exact hl e1 h1
      · subst h1; simp [hlen]) (by simp [hlt]) (by simp at hle; omega)
    rw [show i * sz + off + 1 = i * sz + (off + 1) by omega, this, List.set_set]

end
end Go.Ab
