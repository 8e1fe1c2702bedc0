/-
  A logic of values for the walk, second part: abstract heaps, frames, what is shown of an operation, of code and of a call.
-/
import Derived.Test.YtgibgknkfcbopaaAb1
import Derived.TacticsIn
import Derived.OrdersIn
namespace Go.Ab
open Go
set_option linter.unusedVariables false
set_option linter.unusedSimpArgs false

/-- An object that the call may write: a variable of its own, or a slice's elements; 'gone': nothing is known of it any more. -/
inductive AB where
  | gone
  | cells (cs : List AV)
  | arr (es : List (List AV)) (sz : Nat)
  | mapO (ks : List Value) (vs : List AV)

abbrev Env := List (Nat × AV)
abbrev Hp := List AB
abbrev AV.rowE (es : List (List AV)) (sz : Nat) : AV := .row es.flatten es.length sz

def look : Env → Nat → Option AV
  | [], _ => none
  | (k, x) :: r, t => match Nat.beq k t with
    | true => some x
    | false => look r t

def ev (env : Env) : Operand → Option AV
  | .tmp t => look env t
  | .const v => some (.v v)
  | .func f => some (.clo (.func f) [] [])
  | .global _ => none

def putd (d : Option Nat) (x : AV) (env : Env) : Env := match d with
  | some t => (t, x) :: env
  | none => env

def holds (w : World) (b o : Nat) (ys : List Value) : Prop := ∃ c e, w.heap[b]? = some (.cells c e (0, 0)) ∧ ∀ j y, ys[j]? = some y → c[o + j]? = some y
theorem holds.lies {w : World} {b o : Nat} {ys : List Value} (h : holds w b o ys) : lies w b o ys := by
  obtain ⟨c, e, h1, h2⟩ := h; exact ⟨c, e, _, h1, h2⟩

def RB (S : Nat → Prop) (w : World) (ρ : Pl) (p : Option (Nat × Nat)) : AB → Prop
  | .gone => True
  | .cells cs => ∃ b o ys, p = some (b, o) ∧ holds w b o ys ∧ RL S w cs ρ ys
  | .mapO ks vs => ∃ b o l ck, p = some (b, o) ∧ w.heap[b]? = some (.map l ck) ∧ l.toList.map (·.key) = ks ∧ RL S w vs ρ (l.toList.map (·.val))
  | .arr es sz => (∀ e, e ∈ es → e.length = sz) ∧ 0 < sz ∧ (es = [] ∨ ∃ b o ys, p = some (b, o) ∧ holds w b o ys ∧ RL S w es.flatten ρ ys)

theorem RB.later {ρ ρ' : Pl} {S S' : Nat → Prop} {w w' : World} (l : Later ρ ρ' S S' w w') {p : Option (Nat × Nat)} (hp : ∀ b o, p = some (b, o) → w'.heap[b]? = w.heap[b]?) : ∀ {x : AB}, RB S w ρ p x → RB S' w' ρ' p x
  | .gone, _ => trivial
  | .cells cs, h => by
    obtain ⟨b, o, ys, h1, ⟨c, e, h2, h3⟩, h4⟩ := h
    exact ⟨b, o, ys, h1, ⟨c, e, by rw [hp b o h1]; exact h2, h3⟩, h4.later l⟩
  | .mapO ks vs, h => by
    obtain ⟨b, o, m, ck, h1, h2, h3, h4⟩ := h
    exact ⟨b, o, m, ck, h1, by rw [hp b o h1]; exact h2, h3, h4.later l⟩
  | .arr es sz, h => by
    obtain ⟨h0, h00, h⟩ := h
    refine ⟨h0, h00, ?_⟩
    rcases h with h | ⟨b, o, ys, h1, ⟨c, e, h2, h3⟩, h4⟩
    · exact .inl h
    · exact .inr ⟨b, o, ys, h1, ⟨c, e, by rw [hp b o h1]; exact h2, h3⟩, h4.later l⟩

/-- The world in which the call began; the blocks that it may write; what no longer changed then; where the objects that it was handed lie, and their number. -/
structure Ctx where
  w0 : World
  M : Nat → Prop
  new : ∀ b, w0.heap.size ≤ b → M b
  S0 : Nat → Prop
  ρ0 : Pl
  m : Nat
  lo : Nat
  lole : lo ≤ w0.heap.size
  r : Option Nat

structure HS (c : Ctx) (ρ : Pl) (S : Nat → Prop) (h : Hp) (w : World) : Prop where
  dom : ∀ k, h.length ≤ k → ρ k = none
  rng : ∀ k p, ρ k = some p → p.1 < w.heap.size
  blk : ∀ (k : Nat) b, h[k]? = some b → RB S w ρ (ρ k) b
  live : ∀ (k : Nat) b p, h[k]? = some b → b ≠ .gone → ρ k = some p → c.M p.1 ∧ ¬ S p.1
  inj : ∀ (k k' : Nat) b b' p p', h[k]? = some b → h[k']? = some b' → b ≠ .gone → b' ≠ .gone → ρ k = some p → ρ k' = some p' → p.1 = p'.1 → k = k'
  stab : ∀ b, S b → b < w.heap.size
  ext : Ext c.M c.w0 w
  st0 : ∀ b, c.S0 b → S b
  st1 : ∀ b, S b → c.S0 b ∨ c.M b
  mle : c.m ≤ h.length
  keep : ∀ k, k < c.m → ρ k = c.ρ0 k

/-- The calls that stand deferred: marks of blocks for the rounds of loops over functions, which hold no call. -/
def mark (b : Nat) : Deferred := { target := .collected b, args := #[] }
def Marks (c : Ctx) (S : Nat → Prop) (l : List Deferred) (w : World) : Prop :=
  (∃ D : List Nat, l = D.map mark ∧ D.Nodup ∧ ∀ b, b ∈ D → S b ∧ w.heap[b]? = some (.deferred (some [])) ∧ c.lo ≤ b) ∧
  ∀ q, c.r = some q → S q ∧ ∃ rec, w.heap[q]? = some (.loop rec)
theorem Marks.nil {c : Ctx} (hr : c.r = none) (S : Nat → Prop) (w : World) : Marks c S [] w := ⟨⟨[], rfl, List.nodup_nil, fun _ h => by cases h⟩, fun q hq => by rw [hr] at hq; cases hq⟩
theorem Marks.later {c : Ctx} {ρ ρ' : Pl} {S S' : Nat → Prop} {l : List Deferred} {w w' : World} (m : Marks c S l w) (k : Later ρ ρ' S S' w w') : Marks c S' l w' := by
  obtain ⟨⟨D, h1, h2, h3⟩, h4⟩ := m
  refine ⟨⟨D, h1, h2, fun b hb => ⟨k.st b (h3 b hb).1, by rw [k.same b (h3 b hb).1]; exact (h3 b hb).2.1, (h3 b hb).2.2⟩⟩, fun q hq => ?_⟩
  obtain ⟨h5, rec, h6⟩ := h4 q hq
  exact ⟨k.st q h5, rec, by rw [k.same q h5]; exact h6⟩
theorem Marks.st {c : Ctx} {S S' : Nat → Prop} {l : List Deferred} {w : World} (m : Marks c S l w) (hS : ∀ b, S b → S' b) : Marks c S' l w := by
  obtain ⟨⟨D, h1, h2, h3⟩, h4⟩ := m
  exact ⟨⟨D, h1, h2, fun b hb => ⟨hS b (h3 b hb).1, (h3 b hb).2⟩⟩, fun q hq => ⟨hS q (h4 q hq).1, (h4 q hq).2⟩⟩

/-- The fence that lets everything by, in a round or outside. -/
def rd (r : Option Nat) : Fence := { Fence.wide with round := r }
theorem rd_fn (r : Option Nat) (f : FuncId) : (rd r).fn f := trivial
theorem rd_none : rd none = Fence.wide := rfl
theorem rd_calls {r : Option Nat} {n : Nat} {P : Program} {f : FuncId} {args : Array Value} {w : World} {R : Ending → World → Prop} (h : Calls P f args w R) : CallsIn (rd r) n P f args w R :=
  (callsIn_wide (n := n)).2 h
theorem rd_rows {r : Option Nat} {n : Nat} {P : Program} {row : String} {args : Array Value} {w : World} {R : Value → World → Prop} (h : Rows P row args w R) : RowsIn (rd r) n P row args w R :=
  fun c cs _ => let ⟨v, w', r, s⟩ := h c cs; ⟨v, w', r, stepsIn_wide.2 s⟩
def noDef1 (o : Oper) : Bool := match o.op with
  | .defer _ => false
  | _ => true
def noDef : List Oper → Bool
  | [] => true
  | o :: l => noDef1 o && noDef l
theorem noDef1_sem {o : Oper} (h : noDef1 o = true) (r : Option Nat) (ρ : Operand → Value) : o.semAt r ρ = execOp ρ o :=
  Oper.semAt_eq r ρ o fun c e => by unfold noDef1 at h; rw [e] at h; cases h
theorem noDef_get : ∀ {l : List Oper}, noDef l = true → ∀ {i : Nat} {o : Oper}, l[i]? = some o → noDef1 o = true
  | [], _, i, o, ho => by simp at ho
  | o' :: l, h, i, o, ho => by
    simp only [noDef, Bool.and_eq_true] at h
    cases i with
    | zero => simp at ho; subst ho; exact h.1
    | succ i => exact noDef_get h.2 (by simpa using ho)
theorem op_in {P : Program} {o : Oper} {a : Act} {w : World} {K : Act → World → Prop} {Q : Exit → Act → World → Prop} {r : Option Nat} (hd : noDef1 o = true) (h : o.wp P a w K Q) : o.wpIn (rd r) 0 P a w K Q := by
  refine ⟨fun _ _ => trivial, ?_⟩
  have e : (rd r).round = r := rfl
  rw [noDef1_sem hd]
  unfold Oper.wp at h
  generalize (execOp a.eval o).run P w = x at h ⊢
  cases x with
  | ok x w' =>
    cases x <;> simp only [Oper.upon, Oper.uponIn] at h ⊢ <;>
      first
        | exact h
        | exact ⟨fun h => (by cases h), rd_calls h⟩
        | exact ⟨fun h => (by cases h), rd_rows h⟩
        | exact h.elim
  | halt x w' => cases x <;> simp only [Oper.upon, Oper.uponIn] at h ⊢ <;> exact h
theorem wpList_in {P : Program} {ops : Array Oper} {Q : Exit → Act → World → Prop} {r : Option Nat} (hq : ∀ e a w, Q e a w → e = .normal) : ∀ {l : List Oper}, noDef l = true → ∀ {a : Act} {w : World}, wpList P ops Q l a w → wpListIn (rd r) 0 P ops Q l a w
  | [], _, _, _, h => h
  | o :: l, hd, a, w, h => by
    simp only [noDef, Bool.and_eq_true] at hd
    unfold wpList at h
    unfold wpListIn
    split at h
    · rename_i hw
      rw [if_pos hw]
      rcases h with h | ⟨_, a', w', h⟩
      · exact Oper.wpIn_mono (fun a w h => wpList_in hq hd.2 h) (op_in hd.1 h)
      · have := hq _ _ _ h; cases this
    · rename_i hw
      rw [if_neg hw]
      exact ⟨fun _ _ => trivial, wpList_in hq hd.2 h⟩
theorem wpAny_in {P : Program} {md : Region.Mode} {l : List Oper} {Q : Exit → Act → World → Prop} {r : Option Nat} (hq : ∀ e a w, Q e a w → e = .normal) (hd : noDef l = true) : ∀ {fuel : Nat} {listed : Array Bool} {a : Act} {w : World}, wpAny P md l.toArray Q fuel listed a w → wpAnyIn (rd r) 0 P md l.toArray Q fuel listed a w
  | 0, _, _, _, h => h
  | fuel + 1, listed, a, w, h => by
    refine ⟨h.1, fun i hi => ?_⟩
    have h2 := h.2 i hi
    unfold wpOp at h2
    unfold wpOpIn
    cases ho : l.toArray[i]? with
    | none =>
      simp only [ho] at h2 ⊢
      exact wpAny_in hq hd h2
    | some o =>
      simp only [ho] at h2 ⊢
      split at h2
      · rename_i hw
        rw [if_pos hw]
        rcases h2 with h2 | ⟨_, a', w', h2⟩
        · exact Oper.wpIn_mono (fun a w h => wpAny_in hq hd h) (op_in (noDef_get hd (i := i) (by simpa using ho)) h2)
        · have := hq _ _ _ h2; cases this
      · rename_i hw
        rw [if_neg hw]
        exact ⟨fun _ _ => trivial, wpAny_in hq hd h2⟩

structure Sim (n : Nat × Nat) (c : Ctx) (ρ : Pl) (S : Nat → Prop) (env : Env) (h : Hp) (a : Act) (w : World) : Prop where
  size : a.tmps.size = n.1
  defers : Marks c S a.defers w
  env : ∀ t x, look env t = some x → R S w x ρ (a.tmps.getD t undef)
  hs : HS c ρ S h w
  cm : c.m = n.2

/-- What an operation that only reads and makes memory may use. -/
structure Pre (ρ : Pl) (S : Nat → Prop) (env : Env) (h : Hp) (a : Act) (w : World) : Prop where
  env : ∀ t x, look env t = some x → R S w x ρ (a.tmps.getD t undef)
  rng : ∀ k p, ρ k = some p → p.1 < w.heap.size
  blk : ∀ (k : Nat) b, h[k]? = some b → RB S w ρ (ρ k) b
  live : ∀ (k : Nat) b p, h[k]? = some b → b ≠ .gone → ρ k = some p → ¬ S p.1
  stab : ∀ b, S b → b < w.heap.size

theorem Sim.pre {n : Nat × Nat} {c : Ctx} {ρ : Pl} {S : Nat → Prop} {env : Env} {h : Hp} {a : Act} {w : World} (s : Sim n c ρ S env h a w) : Pre ρ S env h a w :=
  ⟨s.env, s.hs.rng, s.hs.blk, fun k b p h1 h2 h3 => (s.hs.live k b p h1 h2 h3).2, s.hs.stab⟩

structure Post (ρ ρ' : Pl) (S S' : Nat → Prop) (w w' : World) (pos m : Nat) (x : AV) (new : List AB) (y : Value) : Prop where
  ext : Ext (fun _ => False) w w'
  len : new.length = m
  keep : ∀ k, k < pos ∨ pos + m ≤ k → ρ' k = ρ k
  st : ∀ b, S b → S' b
  stn : ∀ b, S' b → S b ∨ (w.heap.size ≤ b ∧ b < w'.heap.size)
  fresh : ∀ k p, pos ≤ k → k < pos + m → ρ' k = some p → w.heap.size ≤ p.1 ∧ p.1 < w'.heap.size ∧ ¬ S' p.1
  inj : ∀ k k' p p', pos ≤ k → k < pos + m → pos ≤ k' → k' < pos + m → ρ' k = some p → ρ' k' = some p' → p.1 = p'.1 → k = k'
  val : R S' w' x ρ' y
  blk : ∀ (j : Nat) b, new[j]? = some b → RB S' w' ρ' (ρ' (pos + j)) b

/-- One operation that only reads, computes, and makes memory: its value and its new objects, the first of which is number 'pos'. -/
def FStep (P : Program) (o : Oper) (env : Env) (h : Hp) (m : Nat) (x : Nat → AV) (new : Nat → List AB) : Prop :=
  ∀ ρ S a w, Pre ρ S env h a w → ∀ pos, (∀ j, j < m → ρ (pos + j) = none) → ∀ K Q,
    (∀ y ρ' S' w', Post ρ ρ' S S' w w' pos m (x pos) (new pos) y → K (a.put o.dst y) w') → o.wp P a w K Q

/-- The operations that are left of a region, in the order of the text. -/
def VC (P : Program) (n : Nat × Nat) (ops : Array Oper) (rest : List Oper) (env : Env) (h : Hp) (K : Env → Hp → Prop) : Prop :=
  ∀ c ρ S a w Q, Sim n c ρ S env h a w → (∀ env' h' ρ' S' a' w', K env' h' → Sim n c ρ' S' env' h' a' w' → Q Exit.normal a' w') → wpList P ops Q rest a w

/-- Code, from an abstract state on. -/
def AW (P : Program) (n : Nat × Nat) (code : Code) (env : Env) (h : Hp) (Q : Exit → Env → Hp → Prop) : Prop :=
  ∀ c ρ S a w QQ, Sim n c ρ S env h a w → (∀ e env' h' ρ' S' a' w', Q e env' h' → Sim n c ρ' S' env' h' a' w' → QQ e a' w') → code.wpIn (rd c.r) 0 P QQ a w

theorem Post.later {ρ ρ' : Pl} {S S' : Nat → Prop} {w w' : World} {pos m : Nat} {x : AV} {new : List AB} {y : Value} (p : Post ρ ρ' S S' w w' pos m x new y) (hn : ∀ j, j < m → ρ (pos + j) = none) (hs : ∀ b, S b → b < w.heap.size) : Later ρ ρ' S S' w w' := by
  refine ⟨fun k q hq => ?_, p.st, fun b hb => p.ext.same b (hs b hb) (by simp), fun _ _ _ _ _ hr => p.ext.room hr⟩
  rw [p.keep k ?_]; exact hq
  by_cases h1 : k < pos
  · exact .inl h1
  · by_cases h2 : pos + m ≤ k
    · exact .inr h2
    · have := hn (k - pos) (by omega)
      rw [show pos + (k - pos) = k by omega, hq] at this
      cases this

theorem getD_put_same {a : Act} {d : Nat} {y : Value} (hd : d < a.tmps.size) : (a.put (some d) y).tmps.getD d undef = y := by
  simp [Act.put, Array.getD, hd]
theorem getD_put_other {a : Act} {d t : Nat} {y : Value} (hd : d ≠ t) : (a.put (some d) y).tmps.getD t undef = a.tmps.getD t undef := by
  simp only [Act.put, Array.getD_eq_getD_getElem?]
  rw [Array.getElem?_setIfInBounds_ne hd]
theorem size_put (a : Act) (d : Option Nat) (y : Value) : (a.put d y).tmps.size = a.tmps.size := by cases d <;> simp [Act.put]
theorem defers_put (a : Act) (d : Option Nat) (y : Value) : (a.put d y).defers = a.defers := by cases d <;> simp [Act.put]
theorem look_cons (k t : Nat) (x : AV) (r : Env) : look ((k, x) :: r) t = if k = t then some x else look r t := by
  show (match Nat.beq k t with | true => some x | false => look r t) = _
  by_cases h : k = t
  · subst h; simp
  · have : Nat.beq k t = false := by
      rw [← Bool.not_eq_true]; intro hb; exact h (Nat.eq_of_beq_eq_true hb)
    rw [this]; simp [h]

def okd (d : Option Nat) (n : Nat × Nat) : Bool := match d with
  | some t => Nat.blt t n.1
  | none => true

theorem env_put {S : Nat → Prop} {w : World} {ρ : Pl} {env : Env} {a : Act} {n : Nat × Nat} {d : Option Nat} {x : AV} {y : Value} (hsize : a.tmps.size = n.1) (hd : okd d n = true)
    (he : ∀ t u, look env t = some u → R S w u ρ (a.tmps.getD t undef)) (hy : R S w x ρ y) : ∀ t u, look (putd d x env) t = some u → R S w u ρ ((a.put d y).tmps.getD t undef) := by
  intro t u hu
  cases d with
  | none => exact he t u hu
  | some d =>
    have hlt : d < a.tmps.size := by rw [hsize]; exact Nat.le_of_ble_eq_true hd
    simp only [putd, look_cons] at hu
    by_cases h : d = t
    · subst h
      rw [if_pos rfl] at hu
      cases hu
      rw [getD_put_same hlt]; exact hy
    · rw [if_neg h] at hu
      rw [getD_put_other h]; exact he t u hu

theorem HS.post {c : Ctx} {ρ ρ' : Pl} {S S' : Nat → Prop} {h : Hp} {w w' : World} {m : Nat} {x : AV} {new : List AB} {y : Value} (s : HS c ρ S h w) (p : Post ρ ρ' S S' w w' h.length m x new y) :
    HS c ρ' S' (h ++ new) w' := by
  have hn : ∀ j, j < m → ρ (h.length + j) = none := fun j _ => s.dom _ (Nat.le_add_right _ _)
  have l := p.later hn s.stab
  have hsz : c.w0.heap.size ≤ w.heap.size := s.ext.size
  refine ⟨fun k hk => ?_, fun k q hq => ?_, fun k b hb => ?_, fun k b q hb hg hq => ?_, fun k k' b b' q q' hb hb' hg hg' hq hq' e => ?_, fun b hb => ?_, ?_, fun b hb => p.st b (s.st0 b hb), fun b hb => ?_, by rw [List.length_append]; exact Nat.le_trans s.mle (Nat.le_add_right _ _), fun k hk => by rw [p.keep k (.inl (Nat.lt_of_lt_of_le hk s.mle))]; exact s.keep k hk⟩
  · rw [List.length_append, p.len] at hk
    rw [p.keep k (.inr hk)]; exact s.dom k (by omega)
  · by_cases hk : k < h.length ∨ h.length + m ≤ k
    · rw [p.keep k hk] at hq
      exact Nat.lt_of_lt_of_le (s.rng k q hq) p.ext.size
    · exact (p.fresh k q (by omega) (by omega) hq).2.1
  · by_cases hk : k < h.length
    · rw [List.getElem?_append_left hk] at hb
      rw [p.keep k (.inl hk)]
      exact RB.later l (fun b' o hb' => p.ext.same b' (s.rng k _ hb') (by simp)) (s.blk k b hb)
    · rw [List.getElem?_append_right (by omega)] at hb
      have := p.blk (k - h.length) b hb
      rwa [show h.length + (k - h.length) = k by omega] at this
  · by_cases hk : k < h.length
    · rw [List.getElem?_append_left hk] at hb
      rw [p.keep k (.inl hk)] at hq
      obtain ⟨h1, h2⟩ := s.live k b q hb hg hq
      refine ⟨h1, fun hs => ?_⟩
      rcases p.stn _ hs with hs | hs
      · exact h2 hs
      · have := s.rng k q hq; omega
    · have hlt : k < h.length + m := by
        have := (List.getElem?_eq_some_iff.1 hb).1
        rw [List.length_append, p.len] at this; exact this
      obtain ⟨h1, h2, h3⟩ := p.fresh k q (by omega) hlt hq
      exact ⟨c.new _ (by omega), h3⟩
  · have hlt : ∀ {k : Nat} {b : AB}, (h ++ new)[k]? = some b → k < h.length + m := fun hb => by
      have := (List.getElem?_eq_some_iff.1 hb).1
      rw [List.length_append, p.len] at this; exact this
    by_cases hk : k < h.length <;> by_cases hk' : k' < h.length
    · rw [List.getElem?_append_left hk] at hb
      rw [List.getElem?_append_left hk'] at hb'
      rw [p.keep k (.inl hk)] at hq
      rw [p.keep k' (.inl hk')] at hq'
      exact s.inj k k' b b' q q' hb hb' hg hg' hq hq' e
    · rw [p.keep k (.inl hk)] at hq
      have h1 := s.rng k q hq
      have h2 := (p.fresh k' q' (by omega) (hlt hb') hq').1
      omega
    · rw [p.keep k' (.inl hk')] at hq'
      have h1 := s.rng k' q' hq'
      have h2 := (p.fresh k q (by omega) (hlt hb) hq).1
      omega
    · exact p.inj k k' q q' (by omega) (hlt hb) (by omega) (hlt hb') hq hq' e
  · rcases p.stn b hb with hb | hb
    · exact Nat.lt_of_lt_of_le (s.stab b hb) p.ext.size
    · exact hb.2
  · exact s.ext.trans p.ext (fun _ h => h.elim)
  · rcases p.stn b hb with hb | hb
    · exact s.st1 b hb
    · exact .inr (c.new b (by omega))

theorem Sim.post {n : Nat × Nat} {c : Ctx} {ρ ρ' : Pl} {S S' : Nat → Prop} {env : Env} {h : Hp} {a : Act} {w w' : World} {m : Nat} {x : AV} {new : List AB} {y : Value} {d : Option Nat}
    (s : Sim n c ρ S env h a w) (hd : okd d n = true) (p : Post ρ ρ' S S' w w' h.length m x new y) : Sim n c ρ' S' (putd d x env) (h ++ new) (a.put d y) w' := by
  have l := p.later (fun j _ => s.hs.dom _ (Nat.le_add_right _ _)) s.hs.stab
  exact ⟨by rw [size_put]; exact s.size, by rw [defers_put]; exact s.defers.later l, env_put s.size hd (fun t u hu => (s.env t u hu).later l) p.val, s.hs.post p, s.cm⟩

theorem wanted_none {o : Oper} {f : Nat → Option Bool} (hg : o.guard = none) : Region.wanted o f = true := by simp [Region.wanted, hg]

/-- The next operation of a region, without a guard. -/
theorem vc_f {P : Program} {n : Nat × Nat} {ops : Array Oper} {o : Oper} {rest : List Oper} {env : Env} {h : Hp} {K : Env → Hp → Prop} {m : Nat} {x : Nat → AV} {new : Nat → List AB}
    (hs : FStep P o env h m x new) (hg : o.guard = none) (hd : okd o.dst n = true) (hk : VC P n ops rest (putd o.dst (x h.length) env) (h ++ new h.length) K) : VC P n ops (o :: rest) env h K := by
  intro c ρ S a w Q s hQ
  refine wpList_plain hg fun K' hK' => ?_
  exact hs ρ S a w s.pre h.length (fun j _ => s.hs.dom _ (Nat.le_add_right _ _)) K' Q fun y ρ' S' w' p => hK' _ _ (hk c ρ' S' _ w' Q (s.post hd p) hQ)

theorem vc_nil {P : Program} {n : Nat × Nat} {ops : Array Oper} {env : Env} {h : Hp} {K : Env → Hp → Prop} (hk : K env h) : VC P n ops [] env h K :=
  fun _ _ _ _ _ _ s hQ => hQ _ _ _ _ _ _ hk s

theorem VC.mono {P : Program} {n : Nat × Nat} {ops : Array Oper} {rest : List Oper} {env : Env} {h : Hp} {K K' : Env → Hp → Prop} (hv : VC P n ops rest env h K) (hk : ∀ e h, K e h → K' e h) : VC P n ops rest env h K' :=
  fun c ρ S a w Q s hQ => hv c ρ S a w Q s fun env' h' ρ' S' a' w' k s' => hQ env' h' ρ' S' a' w' (hk _ _ k) s'

/-! ### Code -/
section
variable {P : Program} {n : Nat × Nat} {env : Env} {h : Hp} {Q : Exit → Env → Hp → Prop}

theorem AW.mono {code : Code} {Q' : Exit → Env → Hp → Prop} (hv : AW P n code env h Q) (hk : ∀ e v h, Q e v h → Q' e v h) : AW P n code env h Q' :=
  fun c ρ S a w QQ s hQ => hv c ρ S a w QQ s fun e env' h' ρ' S' a' w' k s' => hQ e env' h' ρ' S' a' w' (hk _ _ _ k) s'

def nextQ (K : Env → Hp → Prop) (Q : Exit → Env → Hp → Prop) : Exit → Env → Hp → Prop
  | .normal, v, h => K v h
  | e, v, h => Q e v h
def blockQ (id : Nat) (Q : Exit → Env → Hp → Prop) : Exit → Env → Hp → Prop
  | .exit id', v, h => if id' = id then Q .normal v h else Q (.exit id') v h
  | e, v, h => Q e v h

theorem aw_seq {x y : Code} (hx : AW P n x env h (nextQ (fun v h => AW P n y v h Q) Q)) : AW P n (.seq x y) env h Q := by
  intro c ρ S a w QQ s hQ
  refine wpIn_seq (hx c ρ S a w _ s fun e env' h' ρ' S' a' w' k s' => ?_)
  cases e with
  | normal => exact k c ρ' S' a' w' QQ s' hQ
  | _ => exact hQ _ env' h' ρ' S' a' w' k s'
theorem aw_skip (hk : Q .normal env h) : AW P n .skip env h Q := fun _ _ _ _ _ _ s hQ => wpIn_skip (hQ _ _ _ _ _ _ _ hk s)
theorem aw_exit {id : Nat} (hk : Q (.exit id) env h) : AW P n (.exit id) env h Q := fun _ _ _ _ _ _ s hQ => wpIn_exit (hQ _ _ _ _ _ _ _ hk s)
theorem aw_ret (hk : Q .ret env h) : AW P n .ret env h Q := fun _ _ _ _ _ _ s hQ => wpIn_ret (hQ _ _ _ _ _ _ _ hk s)
theorem aw_block {id : Nat} {x : Code} (hx : AW P n x env h (blockQ id Q)) : AW P n (.block id x) env h Q := by
  intro c ρ S a w QQ s hQ
  refine wpIn_block (hx c ρ S a w _ s fun e env' h' ρ' S' a' w' k s' => ?_)
  cases e with
  | exit id' =>
    by_cases hid : id' = id
    · simp only [blockQ, hid, if_true] at k
      simp only [Exit.inBlock, hid, if_true]
      exact hQ _ env' h' ρ' S' a' w' k s'
    · simp only [blockQ, hid, if_false] at k
      simp only [Exit.inBlock, hid, if_false]
      exact hQ _ env' h' ρ' S' a' w' k s'
  | _ => exact hQ _ env' h' ρ' S' a' w' k s'

theorem Sim.ev {n : Nat × Nat} {c : Ctx} {ρ : Pl} {S : Nat → Prop} {env : Env} {h : Hp} {a : Act} {w : World} (s : Sim n c ρ S env h a w) {x : Operand} {u : AV} (hx : ev env x = some u) : R S w u ρ (a.eval x) := by
  cases x with
  | tmp t => exact s.env t u hx
  | const v => cases hx; simp [R, Act.eval]
  | func f => cases hx; simp [R, RL, Act.eval]
  | global g => cases hx
theorem Pre.ev {ρ : Pl} {S : Nat → Prop} {env : Env} {h : Hp} {a : Act} {w : World} (s : Pre ρ S env h a w) {x : Operand} {u : AV} (hx : Ab.ev env x = some u) : R S w u ρ (a.eval x) := by
  cases x with
  | tmp t => exact s.env t u hx
  | const v => cases hx; simp [R, Act.eval]
  | func f => cases hx; simp [R, RL, Act.eval]
  | global g => cases hx

theorem aw_cond {x : Operand} {b : Bool} {p q : Code} (hx : ev env x = some (.b b)) (ht : b = true → AW P n p env h Q) (hf : b = false → AW P n q env h Q) : AW P n (.cond x p q) env h Q := by
  intro c ρ S a w QQ s hQ
  have hb := s.ev hx
  simp only [R] at hb
  exact wpIn_cond_split hb (fun h1 => ht h1 c ρ S a w QQ s hQ) (fun h1 => hf h1 c ρ S a w QQ s hQ)

theorem aw_region {id : Nat} {l : List Oper} (hv : VC P n l.toArray l env h (fun v h => Q .normal v h)) (hnd : noDef l = true := by rfl) : AW P n (.region id l.toArray false) env h Q := by
  intro c ρ S a w QQ s hQ
  exact wpIn_mono (wpIn_region_lit (wpList_in (fun e a w h => h.1) hnd (hv c ρ S a w (fun e a w => e = .normal ∧ QQ .normal a w) s fun env' h' ρ' S' a' w' k s' => ⟨rfl, hQ _ env' h' ρ' S' a' w' k s'⟩))) fun e a w he => by obtain ⟨rfl, h3⟩ := he; exact h3

/-- Less is known: fewer slots. -/
theorem Sim.fewer {n : Nat × Nat} {c : Ctx} {ρ : Pl} {S : Nat → Prop} {env env' : Env} {h : Hp} {a : Act} {w : World} (s : Sim n c ρ S env h a w) (he : ∀ t x, look env' t = some x → look env t = some x) : Sim n c ρ S env' h a w :=
  ⟨s.size, s.defers, fun t x hx => s.env t x (he t x hx), s.hs, s.cm⟩

end
end Go.Ab
