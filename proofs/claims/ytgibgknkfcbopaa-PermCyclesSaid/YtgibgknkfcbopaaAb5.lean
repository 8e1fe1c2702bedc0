/-
  A logic of values for the walk, fifth part: composite values, slices that are made, stores, append.
-/
import Derived.Test.YtgibgknkfcbopaaAb4
namespace Go.Ab
open Go
set_option linter.unusedVariables false
set_option linter.unusedSimpArgs false

section
variable {P : Program} {env : Env} {h : Hp}
variable {d : Option Nat} {ty : TypeId} {pos : String} {af : Array Edge} {g : Option (Nat × Bool)}

/-- These cells in the place of those from number off on. -/
def putAt {α : Type} : List α → Nat → List α → List α
  | cs, _, [] => cs
  | cs, off, x :: xs => putAt (cs.set off x) (off + 1) xs
theorem length_putAt {α : Type} : ∀ (xs cs : List α) (off : Nat), (putAt cs off xs).length = cs.length
  | [], _, _ => rfl
  | x :: xs, cs, off => by simp only [putAt]; rw [length_putAt xs]; simp
theorem RL_put {S : Nat → Prop} {w : World} {ρ : Pl} : ∀ {xs : List AV} {ys : List Value} {cs : List AV} {vs : List Value} {off : Nat}, RL S w cs ρ vs → RL S w xs ρ ys → RL S w (putAt cs off xs) ρ (putAt vs off ys)
  | [], ys, cs, vs, off, h, hx => by simp only [RL] at hx; subst hx; exact h
  | x :: xs, ys, cs, vs, off, h, hx => by
    simp only [RL] at hx
    obtain ⟨y, zs, rfl, h1, h2⟩ := hx
    simp only [putAt]
    exact RL_put (RL_set h off h1) h2
theorem putAt_eq {α : Type} : ∀ (ys vs : List α) (off : Nat), off + ys.length ≤ vs.length → putAt vs off ys = vs.take off ++ ys ++ vs.drop (off + ys.length)
  | [], vs, off, _ => by simp [putAt]
  | y :: ys, vs, off, hl => by
    simp only [putAt]
    have hlt : off < vs.length := by simp at hl; omega
    rw [putAt_eq ys (vs.set off y) (off + 1) (by simp at hl ⊢; omega)]
    rw [List.drop_set_of_lt (by omega), List.take_set]
    have : vs.take (off + 1) = vs.take off ++ [vs[off]] := by rw [List.take_succ_eq_append_getElem hlt]
    rw [this, List.set_append_right _ _ (by simp; omega)]
    simp only [List.length_take, List.length_cons, List.append_assoc]
    rw [show off - min off vs.length = 0 by omega]
    simp only [List.set_cons_zero, List.cons_append, List.nil_append]
    rw [show off + 1 + ys.length = off + (ys.length + 1) by omega]

def fillA (place : Nat → Option (Nat × Nat)) : List AV → List (Nat × List AV) → Option (List AV)
  | cs, [] => some cs
  | cs, (i, xs) :: rest => match place i with
    | some (off, size) => match Nat.beq xs.length size, Nat.ble (off + size) cs.length with
      | true, true => fillA place (putAt cs off xs) rest
      | _, _ => none
    | none => none

theorem foldl_put (ys : List Value) : ∀ (vs : Array Value) (off j0 : Nat), ((ys.zipIdx j0).foldl (fun (cs : Array Value) (p : Value × Nat) => cs.setIfInBounds (off + p.2) p.1) vs).toList = putAt vs.toList (off + j0) ys := by
  induction ys with
  | nil => intro vs off j0; simp [putAt]
  | cons y ys ih =>
    intro vs off j0
    simp only [List.zipIdx_cons, List.foldl_cons, putAt]
    rw [ih]
    simp [Nat.add_assoc]

/-- The parts' cells. -/
inductive Parts (S : Nat → Prop) (w : World) (ρ : Pl) : List (Nat × List AV) → List (Nat × Value) → Prop
  | nil : Parts S w ρ [] []
  | cons {i : Nat} {xs : List AV} {y : Value} {as : List (Nat × List AV)} {bs : List (Nat × Value)} : RL S w xs ρ y.cells.toList → Parts S w ρ as bs → Parts S w ρ ((i, xs) :: as) ((i, y) :: bs)

theorem fill_val {S : Nat → Prop} {w : World} {ρ : Pl} {place : Nat → Option (Nat × Nat)} : ∀ {as : List (Nat × List AV)} {bs : List (Nat × Value)} {cs zs : List AV} {vs : Array Value}, Parts S w ρ as bs → RL S w cs ρ vs.toList → fillA place cs as = some zs →
    ∃ us : Array Value, Instr.fill place vs bs = some us ∧ RL S w zs ρ us.toList := by
  intro as
  induction as with
  | nil =>
    intro bs cs zs vs hp hcs hf
    cases hp
    simp only [fillA, Option.some.injEq] at hf
    subst hf
    exact ⟨vs, rfl, hcs⟩
  | cons a as ih =>
    intro bs cs zs vs hp hcs hf
    cases hp with
    | @cons i xs y as bs h1 h2 =>
      simp only [fillA] at hf
      split at hf
      · rename_i off size hpl
        split at hf
        · rename_i hb1 hb2
          have e1 := Nat.eq_of_beq_eq_true hb1
          have e2 := Nat.le_of_ble_eq_true hb2
          have l1 := RL_length h1
          have l2 := RL_length hcs
          simp only [Array.length_toList] at l1 l2
          have hput := foldl_put y.cells.toList vs off 0
          simp only [Nat.add_zero] at hput
          have := RL_put (off := off) hcs h1
          rw [← hput] at this
          obtain ⟨us, h3, h4⟩ := ih h2 this hf
          refine ⟨us, ?_, h4⟩
          simp only [Instr.fill, hpl]
          rw [if_neg (by simp; omega)]
          rw [← h3]
          congr 1
          rw [← Array.foldl_toList]
          simp
        · cases hf
      · cases hf

def evParts (env : Env) : List (Nat × Operand) → Option (List (Nat × List AV))
  | [] => some []
  | (i, x) :: r => match evu env x with
    | some u => match u.cellsOf, evParts env r with
      | some xs, some as => some ((i, xs) :: as)
      | _, _ => none
    | none => none
theorem parts_val {ρ : Pl} {S : Nat → Prop} {a : Act} {w : World} (p : Pre ρ S env h a w) : ∀ {l : List (Nat × Operand)} {as : List (Nat × List AV)}, evParts env l = some as → Parts S w ρ as (l.map fun (i, x) => (i, a.eval x))
  | [], as, hl => by simp only [evParts, Option.some.injEq] at hl; subst hl; exact .nil
  | (i, x) :: r, as, hl => by
    simp only [evParts] at hl
    split at hl
    · rename_i u hu
      split at hl
      · rename_i xs as' h1 h2
        cases hl
        exact .cons (cellsOf_val (p.evu hu) h1) (parts_val p h2)
      · cases hl
    · cases hl

theorem RL_vs {S : Nat → Prop} {w : World} {ρ : Pl} : ∀ (l : List Value), RL S w (l.map .v) ρ l
  | [] => by simp [RL]
  | x :: l => by simp only [List.map_cons, RL]; exact ⟨x, l, rfl, R_v_mk x, RL_vs l⟩

theorem fs_build (T : Tab P) {t : Nat} {i : TI} {pl : List (Nat × Nat)} {l : List (Nat × Operand)} {as : List (Nat × List AV)} {zs : List AV} (ht : T.ti t = some i) (hpl : T.places t = some pl) (hl : evParts env l = some as) (hz : fillA (pl[·]?) (i.zero.map .v) as = some zs) :
    FStep P ⟨d, .build t l.toArray, ty, pos, af, g⟩ env h 0 (fun _ => .agg zs) (fun _ => []) := by
  refine fs_val fun ρ S a w p => ?_
  obtain ⟨inf, z, h1, h2, h3, h4, h5, h6, h7⟩ := T.tiOk t i ht
  have h8 := T.placesOk t pl hpl
  unfold placesP at h8
  split at h8
  · rename_i fields hu
    obtain ⟨us, h9, h10⟩ := fill_val (vs := z.cells) (parts_val p hl) (by rw [h5]; exact RL_vs i.zero) hz
    have hb : P.built t (l.map fun (i, x) => (i, a.eval x)) = some us := by
      unfold Program.built
      simp only [h1, hu, h4, h8]
      simpa using h9
    refine ⟨.agg us, ?_, by simp only [R]; exact ⟨us, rfl, h10⟩⟩
    simp only [execOp, Sem.run_bind]
    rw [run_build w t _ us (by simpa using hb)]
    rfl
  · cases h8
theorem fs_buildArr (T : Tab P) {t n e : Nat} {i ie : TI} {l : List (Nat × Operand)} {as : List (Nat × List AV)} {zs : List AV} (ht : T.ti t = some i) (ha : T.arr t = some (n, e)) (he : T.ti e = some ie) (hl : evParts env l = some as) (hz : fillA (fun j => some (j * ie.size, ie.size)) (i.zero.map .v) as = some zs) :
    FStep P ⟨d, .build t l.toArray, ty, pos, af, g⟩ env h 0 (fun _ => .agg zs) (fun _ => []) := by
  refine fs_val fun ρ S a w p => ?_
  obtain ⟨inf, z, h1, h2, h3, h4, h5, h6, h7⟩ := T.tiOk t i ht
  obtain ⟨inf', z', h1', h2', _⟩ := T.tiOk e ie he
  obtain ⟨us, h9, h10⟩ := fill_val (vs := z.cells) (parts_val p hl) (by rw [h5]; exact RL_vs i.zero) hz
  have hb : P.built t (l.map fun (i, x) => (i, a.eval x)) = some us := by
    unfold Program.built
    simp only [h1, T.arrOk t n e ha, h4, h1', h2']
    exact h9
  refine ⟨.agg us, ?_, by simp only [R]; exact ⟨us, rfl, h10⟩⟩
  simp only [execOp, Sem.run_bind]
  rw [run_build w t _ us (by simpa using hb)]
  rfl

/-! ### New slices -/
/-- A new row of cells is a new object: a slice's elements. -/
theorem fs_newSlice {o : Oper} {es : List (List AV)} {sz : Nat} (hsz : 0 < sz) (hes : ∀ e, e ∈ es → e.length = sz)
    (hrun : ∀ ρ S a w, Pre ρ S env h a w → ∃ (c : Array Value) (e : TypeId) (cap : Nat) (dr : Bool) (ys : List Value), (execOp a.eval o).run P w = .ok (.value (.slice (some ⟨w.heap.size, 0, none⟩) es.length cap)) ((if dr then w.drew else w).alloc (.cells c e)) ∧
      es.length ≤ cap ∧ cap ≤ maxLen ∧ cap * sz ≤ c.size ∧ (∀ (j : Nat) (y : Value), ys[j]? = some y → c[j]? = some y) ∧ RL S w es.flatten ρ ys) :
    FStep P o env h 1 (fun p => .sl p 0 es.length sz) (fun _ => [.arr es sz]) := by
  refine fs_new fun ρ S a w p => ?_
  obtain ⟨c, e, cap, dr, ys, h1, h2, h3, h4, h5, h6⟩ := hrun ρ S a w p
  refine ⟨c, e, _, dr, h1, fun pos hpos w' hw' l => ⟨?_, ?_⟩⟩
  · simp only [R]
    refine ⟨_, cap, rfl, h3, .inr ⟨w.heap.size, 0, by simp [Pl.with], by simp, h2, c, e, hw', by simp only [Nat.zero_add]; exact h4⟩⟩
  · simp only [RB]
    exact ⟨hes, hsz, .inr ⟨_, _, ys, rfl, ⟨c, e, hw', fun j y hy => by rw [Nat.zero_add]; exact h5 j y hy⟩, h6.later l⟩⟩

theorem length_flatten_of {α : Type} {sz : Nat} : ∀ {es : List (List α)}, (∀ e, e ∈ es → e.length = sz) → es.flatten.length = es.length * sz
  | [], _ => by simp
  | e :: es, h => by
    have ih := length_flatten_of (es := es) (fun e he => h e (List.mem_cons_of_mem _ he))
    have h0 := h e (List.mem_cons_self)
    rw [List.flatten_cons, List.length_append, List.length_cons, ih, h0, Nat.add_mul]
    omega
theorem flatten_replicate_get {α : Type} (z : List α) : ∀ (n j : Nat) (x : α), (List.replicate n z).flatten[j]? = some x → j < n * z.length ∧ z[j % z.length]? = some x
  | 0, j, x, h => by simp at h
  | n + 1, j, x, h => by
    simp only [List.replicate_succ, List.flatten_cons] at h
    by_cases hj : j < z.length
    · rw [List.getElem?_append_left hj] at h
      exact ⟨by rw [Nat.add_mul]; omega, by rw [Nat.mod_eq_of_lt hj]; exact h⟩
    · rw [List.getElem?_append_right (by omega)] at h
      obtain ⟨h1, h2⟩ := flatten_replicate_get z n _ x h
      refine ⟨by rw [Nat.add_mul]; omega, ?_⟩
      rw [← h2, ← Nat.mod_eq_sub_mod (by omega)]

theorem madeCells_get {z : Array Value} {n j : Nat} {y : Value} (hj : j < n) (hy : z.toList[j % z.size]? = some y) : (madeCells z n)[j]? = some y := by
  simp only [madeCells, Array.getElem?_map]
  rw [Array.getElem?_range, if_pos hj]
  simp only [Option.map_some, Option.some.injEq]
  simp only [Array.getElem?_toList] at hy
  rw [getElem!_def, hy]

theorem fs_makeSlice (T : Tab P) {t e : Nat} {i : TI} {l c : Operand} {kl kc : IntKind} {n m : Int} (ht : T.elem t = some e) (he : T.ti e = some i) (hl : evu env l = some (.v (.int kl n))) (hc : evu env c = some (.v (.int kc m))) (h0 : 0 ≤ n) (h1 : n ≤ m) (h2 : (i.bytes : Int) * m ≤ 281474976710656) (h3 : m ≤ 9223372036854775807) (hs : 0 < i.size) :
    FStep P ⟨d, .makeSlice t l c, ty, pos, af, g⟩ env h 1 (fun p => .sl p 0 n.toNat i.size) (fun _ => [.arr (List.replicate n.toNat (i.zero.map .v)) i.size]) := by
  obtain ⟨inf, z, a1, a2, a3, a4, a5, a6, a7⟩ := T.tiOk e i he
  have key := fs_newSlice (P := P) (env := env) (h := h) (o := ⟨d, .makeSlice t l c, ty, pos, af, g⟩) (es := List.replicate n.toNat (i.zero.map AV.v)) (sz := i.size) hs (fun e he => by rw [List.eq_of_mem_replicate he]; simp [a6]) fun ρ S a w p => by
    have b1 := R_v (p.evu hl)
    have b2 := R_v (p.evu hc)
    have hr := run_make (P := P) w t e inf z (T.elemOk _ _ ht) a1 a4 kl kc n m h0 h1 (by rw [a3]; exact h2) h3
    refine ⟨madeCells z.cells (m.toNat * inf.size), e, m.toNat, false, (List.replicate n.toNat i.zero).flatten, ?_, ?_, ?_, ?_, fun j y hy => ?_, ?_⟩
    · simp only [execOp, b1, b2, Sem.run_bind, hr, List.length_replicate]; rfl
    · simp; omega
    · simp [maxLen]; omega
    · rw [size_madeCells, a2]; exact Nat.le_refl _
    · obtain ⟨c1, c2⟩ := flatten_replicate_get i.zero n.toNat j y hy
      refine madeCells_get ?_ ?_
      · rw [a2]
        refine Nat.lt_of_lt_of_le c1 ?_
        rw [a6]
        exact Nat.mul_le_mul_right _ (by omega)
      · have hzs : z.cells.size = i.zero.length := by rw [← a5]; simp
        rw [hzs, a5]; exact c2
    · have : (List.replicate n.toNat (i.zero.map AV.v)).flatten = ((List.replicate n.toNat i.zero).flatten).map AV.v := by
        rw [List.map_flatten, List.map_replicate]
      rw [this]
      exact RL_vs _
  simpa using key

/-- The elements that a literal gives, in their places among zero values. -/
def fillE : List (List AV) → List (Nat × List AV) → Option (List (List AV))
  | es, [] => some es
  | es, (i, xs) :: rest => match es[i]? with
    | some e => match Nat.beq xs.length e.length with
      | true => fillE (es.set i xs) rest
      | false => none
    | none => none

theorem putAt_flatten {sz : Nat} : ∀ {es : List (List AV)}, (∀ e, e ∈ es → e.length = sz) → ∀ {i : Nat} {e : List AV}, es[i]? = some e → ∀ {off : Nat} {xs : List AV}, off + xs.length ≤ sz → putAt es.flatten (i * sz + off) xs = (es.set i (putAt e off xs)).flatten := by
  intro es hl i e hi off xs
  induction xs generalizing es e off with
  | nil => intro _; simp only [putAt]; rw [show es.set i e = es from List.ext_getElem? fun j => by
        rw [List.getElem?_set]
        split
        · rename_i e0; subst e0; rw [hi, if_pos (List.getElem?_eq_some_iff.1 hi).1]
        · rfl]
  | cons x xs ih =>
    intro hle
    simp only [putAt]
    have hlen := hl e (List.mem_of_getElem? hi)
    have hset : es.flatten.set (i * sz + off) x = (es.set i (e.set off x)).flatten := by
      clear ih
      induction es generalizing i with
      | nil => simp at hi
      | cons e' es ih2 =>
        have he' := hl e' (by simp)
        cases i with
        | zero =>
          simp only [List.getElem?_cons_zero, Option.some.injEq] at hi
          subst hi
          simp only [List.flatten_cons, List.set_cons_zero, Nat.zero_mul, Nat.zero_add]
          rw [List.set_append_left _ _ (by simp at hle; omega)]
        | succ i =>
          simp only [List.getElem?_cons_succ] at hi
          simp only [List.flatten_cons, List.set_cons_succ]
          rw [List.set_append_right _ _ (by rw [he', Nat.add_mul]; omega), he', show (i + 1) * sz + off - sz = i * sz + off by rw [Nat.add_mul]; omega, ih2 (fun e he => hl e (by simp [he])) hi]
    rw [hset]
    have hlt : i < es.length := (List.getElem?_eq_some_iff.1 hi).1
    have := ih (es := es.set i (e.set off x)) (e := e.set off x) (off := off + 1) (fun e1 he1 => by
      rcases List.mem_or_eq_of_mem_set he1 with h1 | h1
      · exact hl e1 h1
      · subst h1; simp [hlen]) (by simp [hlt]) (by simp at hle; omega)
    rw [show i * sz + off + 1 = i * sz + (off + 1) by omega, this, List.set_set]

end
end Go.Ab
