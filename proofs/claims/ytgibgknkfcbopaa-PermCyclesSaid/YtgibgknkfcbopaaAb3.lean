/-
  A logic of values for the walk, third part: the operations, one by one.
-/
import Derived.Test.YtgibgknkfcbopaaAb2
namespace Go.Ab
open Go
set_option linter.unusedVariables false
set_option linter.unusedSimpArgs false

/-- What the operations ask of a type: is it a struct or an array; its cells; its bytes; its zero value's cells. -/
structure TI where
  agg : Bool
  size : Nat
  bytes : Nat
  zero : List Value

def aggB (P : Program) (t : TypeId) : Option Bool := match P.underlying t with
  | some (.struct _) => some true
  | some (.array _ _) => some true
  | some _ => some false
  | none => none

/-- A struct's fields: first cell and number of cells of each. -/
def placesP (P : Program) (t : TypeId) : Option (List (Nat × Nat)) := match P.underlying t with
  | some (.struct fields) => fields.toList.mapM (fun f => (P.info? f.type).map fun i => (f.offset, i.size))
  | _ => none

/-- The program's table of types, as far as the operations ask for it. -/
structure Tab (P : Program) where
  ti : Nat → Option TI
  tiOk : ∀ t i, ti t = some i → ∃ inf z, P.info? t = some inf ∧ inf.size = i.size ∧ inf.bytes = i.bytes ∧ inf.zero = some z ∧ z.cells.toList = i.zero ∧ i.zero.length = i.size ∧ aggB P t = some i.agg
  elem : Nat → Option Nat
  elemOk : ∀ t e, elem t = some e → P.underlying t = some (.slice e)
  field : Nat → Nat → Option Nat
  fieldOk : ∀ t f o, field t f = some o → ∃ fs fd inf, P.underlying t = some (.struct fs) ∧ fs[f]? = some fd ∧ fd.offset = o ∧ P.info? fd.type = some inf ∧ inf.size ≠ 0
  arr : Nat → Option (Nat × Nat)
  arrOk : ∀ t n e, arr t = some (n, e) → P.underlying t = some (.array n e)
  places : Nat → Option (List (Nat × Nat))
  placesOk : ∀ t l, places t = some l → placesP P t = some l

theorem ti_mk {P : Program} {t : TypeId} {z : Value} {size bytes : Nat} {agg : Bool} {zero : List Value} (h : (P.info? t).map (fun i => (i.zero, i.size, i.bytes)) = some (some z, size, bytes)) (ha : aggB P t = some agg) (hz : z.cells.toList = zero) (hl : zero.length = size) :
    ∃ inf z, P.info? t = some inf ∧ inf.size = size ∧ inf.bytes = bytes ∧ inf.zero = some z ∧ z.cells.toList = zero ∧ zero.length = size ∧ aggB P t = some agg := by
  obtain ⟨i, hi, h1, h2, h3⟩ := info_parts h
  exact ⟨i, z, hi, h2, h3, h1, hz, hl, ha⟩
def fieldP (P : Program) (t : TypeId) (f : Nat) : Option (Nat × Nat) := match P.underlying t with
  | some (.struct fs) => match fs[f]? with
    | some fd => (P.info? fd.type).map fun i => (fd.offset, i.size)
    | none => none
  | _ => none
theorem field_mk {P : Program} {t : TypeId} {f o n : Nat} (h : fieldP P t f = some (o, n + 1)) : ∃ fs fd inf, P.underlying t = some (.struct fs) ∧ fs[f]? = some fd ∧ fd.offset = o ∧ P.info? fd.type = some inf ∧ inf.size ≠ 0 := by
  unfold fieldP at h
  split at h
  · rename_i fs hfs
    split at h
    · rename_i fd hfd
      obtain ⟨i, hi, hz⟩ := Option.map_eq_some_iff.1 h
      simp only [Prod.mk.injEq] at hz
      exact ⟨fs, fd, i, hfs, hfd, hz.1, hi, by omega⟩
    · cases h
  · cases h
theorem Tab.agg {P : Program} (T : Tab P) {t : Nat} {i : TI} (h : T.ti t = some i) (w : World) : (isAgg t).run P w = .ok i.agg w := by
  obtain ⟨inf, z, h1, h2, h3, h4, h5, h6, h7⟩ := T.tiOk t i h
  unfold aggB at h7
  split at h7 <;> rename_i hu <;> try (cases h7; done)
  · simp only [Option.some.injEq] at h7; rw [← h7]; simp [isAgg, run_underlying hu]
  · simp only [Option.some.injEq] at h7; rw [← h7]; simp [isAgg, run_underlying hu]
  · rename_i d hn1 hn2
    simp only [Option.some.injEq] at h7
    rw [← h7]
    cases d <;> first | (exact absurd rfl (hn1 _)) | (exact absurd rfl (hn2 _ _)) | simp [isAgg, run_underlying hu]
theorem Tab.sizeOf {P : Program} (T : Tab P) {t : Nat} {i : TI} (h : T.ti t = some i) (w : World) : (Go.sizeOf t).run P w = .ok i.size w := by
  obtain ⟨inf, z, h1, h2, _⟩ := T.tiOk t i h
  simp [Go.sizeOf, typeInfo, h1, h2]
theorem Tab.zeroV {P : Program} (T : Tab P) {t : Nat} {i : TI} (h : T.ti t = some i) (w : World) : ∃ z, (zeroValue t).run P w = .ok z w ∧ z.cells.toList = i.zero := by
  obtain ⟨inf, z, h1, h2, h3, h4, h5, _⟩ := T.tiOk t i h
  exact ⟨z, by simp [zeroValue, typeInfo, h1, h4], h5⟩

/-- One cell holds it. -/
def AV.one : AV → Bool
  | .v x => x.oneCell'
  | .ptr .. | .ep .. | .pr .. | .sl .. | .mp .. | .row .. | .clo .. | .ifc .. => true
  | _ => false
theorem one_val {S : Nat → Prop} {w : World} {ρ : Pl} {x : AV} {y : Value} (h : R S w x ρ y) (h1 : x.one = true) : y.oneCell' = true := by
  cases x <;> simp only [AV.one, R] at h h1 <;> try (cases h1)
  all_goals first
    | (subst h; exact h1)
    | (obtain ⟨_, _, h⟩ := h; first | (obtain ⟨_, rfl, _⟩ := h; rfl) | (obtain ⟨_, rfl⟩ := h; rfl) | (obtain ⟨rfl, _⟩ := h; rfl))
    | (obtain ⟨_, rfl, _⟩ := h; rfl)
theorem cells_one {y : Value} (h : y.oneCell' = true) : y.cells = #[y] := by cases y <;> first | rfl | (simp [Value.oneCell'] at h)

/-- The cells of a value. -/
def AV.cellsOf : AV → Option (List AV)
  | .agg cs => some cs
  | x => match x.one with
    | true => some [x]
    | false => none
theorem cellsOf_val {S : Nat → Prop} {w : World} {ρ : Pl} {x : AV} {cs : List AV} {y : Value} (h : R S w x ρ y) (hc : x.cellsOf = some cs) : RL S w cs ρ y.cells.toList := by
  have key : x.one = true → cs = [x] → RL S w cs ρ y.cells.toList := fun h1 h2 => by
    subst h2
    rw [cells_one (one_val h h1)]
    simp only [RL]
    exact ⟨y, [], rfl, h, rfl⟩
  cases x with
  | agg xs =>
    simp only [AV.cellsOf, Option.some.injEq] at hc
    subst hc
    simp only [R] at h
    obtain ⟨ys, rfl, h⟩ := h
    exact h
  | v x =>
    simp only [AV.cellsOf] at hc
    split at hc
    · rename_i h1; exact key h1 (by simpa using hc.symm)
    · cases hc
  | _ => first | (simp [AV.cellsOf, AV.one] at hc; done) | exact key rfl (by simpa [AV.cellsOf, AV.one] using hc.symm)

section
variable {P : Program} {env : Env} {h : Hp}

def AV.un : AV → AV
  | .cond true x => x.un
  | x => x
theorem un_val {S : Nat → Prop} {w : World} {ρ : Pl} : ∀ {x : AV} {y : Value}, R S w x ρ y → R S w x.un ρ y
  | .cond true x, y, h => by
    simp only [R] at h
    simp only [AV.un]
    exact un_val (h trivial)
  | .cond false x, y, h => h
  | .v _, _, h | .any, _, h | .ptr .., _, h | .ep .., _, h | .pr .., _, h | .sl .., _, h | .mp .., _, h | .row .., _, h | .agg _, _, h | .tup _, _, h | .clo .., _, h | .ifc .., _, h => h
def evu (env : Env) (x : Operand) : Option AV := match ev env x with
  | some u => some u.un
  | none => none
theorem Pre.evu {ρ : Pl} {S : Nat → Prop} {env : Env} {h : Hp} {a : Act} {w : World} (s : Pre ρ S env h a w) {x : Operand} {u : AV} (hx : Ab.evu env x = some u) : R S w u ρ (a.eval x) := by
  unfold Ab.evu at hx
  split at hx
  · rename_i u' h'
    cases hx
    exact un_val (s.ev h')
  · cases hx

/-- An operation that computes a value and leaves the world alone. -/
theorem fs_val {o : Oper} {u : AV} (hrun : ∀ ρ S a w, Pre ρ S env h a w → ∃ y, (execOp a.eval o).run P w = .ok (.value y) w ∧ R S w u ρ y) : FStep P o env h 0 (fun _ => u) (fun _ => []) := by
  intro ρ S a w p pos hp K Q hk
  obtain ⟨y, h1, h2⟩ := hrun ρ S a w p
  unfold Oper.wp
  rw [h1]
  exact hk y ρ S w ⟨Ext.refl _ _, rfl, fun _ _ => rfl, fun _ h => h, fun _ h => .inl h, fun k p h1 h2 => by omega, fun k k' p p' h1 h2 => by omega, h2, fun j b hb => by simp at hb⟩

theorem ext_alloc (w : World) (o : Obj) (M : Nat → Prop) : Ext M w (w.alloc o) :=
  ⟨rfl, rfl, rfl, by simp, fun b hb _ => RowKit.Below.heap_alloc w o b hb, fun b c e hc => ⟨c, by rw [RowKit.Below.heap_alloc w o b (Array.getElem?_eq_some_iff.1 hc).1]; exact hc, rfl⟩⟩
theorem Ext.drew1 {M : Nat → Prop} (w : World) : Ext M w w.drew := ⟨rfl, rfl, rfl, Nat.le_refl _, fun _ _ _ => rfl, fun _ c _ h => ⟨c, h, rfl⟩⟩

/-- The placement with one object more. -/
def Pl.with (ρ : Pl) (k : Nat) (p : Nat × Nat) : Pl := fun j => if j = k then some p else ρ j

/-- An operation that makes one block, and gives its place. -/
theorem fs_new {o : Oper} {u : Nat → AV} {b : AB} (hrun : ∀ ρ S a w, Pre ρ S env h a w → ∃ (c : Array Value) (e : TypeId) (y : Value) (dr : Bool), (execOp a.eval o).run P w = .ok (.value y) ((if dr then w.drew else w).alloc (.cells c e)) ∧
      ∀ pos, ρ pos = none → ∀ w', (w'.heap[w.heap.size]? = some (.cells c e (0, 0))) → Later ρ (ρ.with pos (w.heap.size, 0)) S S w w' →
        R S w' (u pos) (ρ.with pos (w.heap.size, 0)) y ∧ RB S w' (ρ.with pos (w.heap.size, 0)) (some (w.heap.size, 0)) b) :
    FStep P o env h 1 u (fun _ => [b]) := by
  intro ρ S a w p pos hp K Q hk
  obtain ⟨c, e, y, dr, h1, h2⟩ := hrun ρ S a w p
  have hpos : ρ pos = none := by simpa using hp 0 (by omega)
  unfold Oper.wp
  rw [h1]
  have hw : (if dr then w.drew else w).heap = w.heap := by cases dr <;> rfl
  have hsz : (if dr then w.drew else w).heap.size = w.heap.size := by rw [hw]
  have hx : Ext (fun _ => False) w ((if dr then w.drew else w).alloc (.cells c e)) := by
    cases dr
    · exact ext_alloc _ _ _
    · exact (Ext.drew1 w).trans (ext_alloc _ _ (fun _ => False)) (fun _ h => h.elim)
  have hl : Later ρ (ρ.with pos (w.heap.size, 0)) S S w ((if dr then w.drew else w).alloc (.cells c e)) := by
    refine ⟨fun k q hq => ?_, fun _ h => h, fun b hb => hx.same b (p.stab b hb) (by simp), fun _ _ _ _ _ hr => hx.room hr⟩
    unfold Pl.with
    rw [if_neg (fun e => by rw [e, hpos] at hq; cases hq)]; exact hq
  have hnew : ((if dr then w.drew else w).alloc (.cells c e)).heap[w.heap.size]? = some (.cells c e (0, 0)) := by
    have := heap_alloc_new (if dr then w.drew else w) (.cells c e)
    rwa [hsz] at this
  obtain ⟨h3, h4⟩ := h2 pos hpos _ hnew hl
  have hss : ((if dr then w.drew else w).alloc (.cells c e)).heap.size = w.heap.size + 1 := by rw [World.size_alloc, hsz]
  refine hk y (ρ.with pos (w.heap.size, 0)) S _ ⟨hx, rfl, fun k hk => ?_, fun _ h => h, fun _ h => .inl h, fun k q hk1 hk2 hq => ?_, fun k k' q q' a1 a2 a3 a4 _ _ _ => by omega, h3, fun j b' hb => ?_⟩
  · unfold Pl.with; rw [if_neg (by omega)]
  · have : k = pos := by omega
    subst this
    simp only [Pl.with, if_true, Option.some.injEq] at hq
    subst hq
    refine ⟨Nat.le_refl _, by simp [hss], fun hs => ?_⟩
    have := p.stab _ hs
    simp at this
  · cases j with
    | zero =>
      simp only [List.getElem?_cons_zero, Option.some.injEq] at hb
      subst hb
      simpa [Pl.with] using h4
    | succ j => simp at hb

/-! ### Values -/
variable {d : Option Nat} {ty : TypeId} {pos : String} {af : Array Edge} {g : Option (Nat × Bool)}

theorem fs_move {x : Operand} {u : AV} (hx : evu env x = some u) : FStep P ⟨d, .move x, ty, pos, af, g⟩ env h 0 (fun _ => u) (fun _ => []) :=
  fs_val fun _ _ _ _ p => ⟨_, rfl, p.evu hx⟩
theorem fs_assign {x : Operand} {u : AV} (hx : evu env x = some u) : FStep P ⟨d, .assign x, ty, pos, af, g⟩ env h 0 (fun _ => u) (fun _ => []) :=
  fs_val fun _ _ _ _ p => ⟨_, rfl, p.evu hx⟩

theorem R_v {S : Nat → Prop} {w : World} {ρ : Pl} {x y : Value} (h : R S w (.v x) ρ y) : y = x := by simpa [R] using h
theorem R_v_mk {S : Nat → Prop} {w : World} {ρ : Pl} (x : Value) : R S w (.v x) ρ x := by simp [R]

theorem fs_pick {c x y : Operand} {b : Bool} {u v : AV} (hc : evu env c = some (.b b)) (hx : evu env x = some u) (hy : evu env y = some v) : FStep P ⟨d, .pick c x y, ty, pos, af, g⟩ env h 0 (fun _ => if b then u else v) (fun _ => []) := by
  refine fs_val fun ρ S a w p => ?_
  have h1 := R_v (p.evu hc)
  refine ⟨if b then a.eval x else a.eval y, by simp [execOp, h1, asBool], ?_⟩
  cases b
  · exact p.evu hy
  · exact p.evu hx
theorem fs_pick_and {c x y : Operand} {b q : Bool} (hc : evu env c = some (.b b)) (hx : evu env x = some (.cond b (.b q))) (hy : evu env y = some (.b false)) : FStep P ⟨d, .pick c x y, ty, pos, af, g⟩ env h 0 (fun _ => .b (b && q)) (fun _ => []) := by
  refine fs_val fun ρ S a w p => ?_
  have h1 := R_v (p.evu hc)
  have h2 := p.evu hx
  have h3 := R_v (p.evu hy)
  refine ⟨if b then a.eval x else a.eval y, by simp [execOp, h1, asBool], ?_⟩
  cases b
  · simp [R, h3]
  · simp only [R] at h2; simp [R, h2]
theorem fs_pick_or {c x y : Operand} {b q : Bool} (hc : evu env c = some (.b b)) (hx : evu env x = some (.b true)) (hy : evu env y = some (.cond (!b) (.b q))) : FStep P ⟨d, .pick c x y, ty, pos, af, g⟩ env h 0 (fun _ => .b (b || q)) (fun _ => []) := by
  refine fs_val fun ρ S a w p => ?_
  have h1 := R_v (p.evu hc)
  have h2 := R_v (p.evu hx)
  have h3 := p.evu hy
  refine ⟨if b then a.eval x else a.eval y, by simp [execOp, h1, asBool], ?_⟩
  cases b
  · simp only [R] at h3; simp [R, h3]
  · simp [R, h2]

/-! ### Numbers -/
theorem fs_bin {op : BinOp} {t t2 : TypeId} {x y : Operand} {k : IntKind} {a b : Int} {z : Value} (hx : evu env x = some (.v (.int k a))) (hy : evu env y = some (.v (.int k b)))
    (hz : ∀ w, (binOp op t (.int k a) (.int k b)).run P w = .ok z w) : FStep P ⟨d, .binOp op t x y t2, ty, pos, af, g⟩ env h 0 (fun _ => .v z) (fun _ => []) := by
  refine fs_val fun ρ S ac w p => ?_
  have h1 := R_v (p.evu hx)
  have h2 := R_v (p.evu hy)
  refine ⟨z, ?_, R_v_mk z⟩
  have hg : ∀ w, (eqGuard op t x y (.int k a) (.int k b)).run P w = .ok () w := fun w => by
    unfold eqGuard
    cases op <;> rfl
  simp [execOp, h1, h2, hg, hz]
theorem fs_add {t t2 : TypeId} {x y : Operand} {k : IntKind} {a b : Int} (hx : evu env x = some (.v (.int k a))) (hy : evu env y = some (.v (.int k b))) :
    FStep P ⟨d, .binOp .add t x y t2, ty, pos, af, g⟩ env h 0 (fun _ => .v (.int k (k.wrap (a + b)))) (fun _ => []) := fs_bin hx hy fun w => by simp [binOp, Op.intArith]
theorem fs_sub {t t2 : TypeId} {x y : Operand} {k : IntKind} {a b : Int} (hx : evu env x = some (.v (.int k a))) (hy : evu env y = some (.v (.int k b))) :
    FStep P ⟨d, .binOp .sub t x y t2, ty, pos, af, g⟩ env h 0 (fun _ => .v (.int k (k.wrap (a - b)))) (fun _ => []) := fs_bin hx hy fun w => by simp [binOp, Op.intArith]
theorem fs_mul {t t2 : TypeId} {x y : Operand} {k : IntKind} {a b : Int} (hx : evu env x = some (.v (.int k a))) (hy : evu env y = some (.v (.int k b))) :
    FStep P ⟨d, .binOp .mul t x y t2, ty, pos, af, g⟩ env h 0 (fun _ => .v (.int k (k.wrap (a * b)))) (fun _ => []) := fs_bin hx hy fun w => by simp [binOp, Op.intArith]
theorem fs_quo {t t2 : TypeId} {x y : Operand} {k : IntKind} {a b : Int} (hx : evu env x = some (.v (.int k a))) (hy : evu env y = some (.v (.int k b))) (hb : b ≠ 0) :
    FStep P ⟨d, .binOp .quo t x y t2, ty, pos, af, g⟩ env h 0 (fun _ => .v (.int k (k.wrap (a.tdiv b)))) (fun _ => []) := fs_bin hx hy fun w => by simp [binOp, Op.intDiv, hb]
theorem fs_rem {t t2 : TypeId} {x y : Operand} {k : IntKind} {a b : Int} (hx : evu env x = some (.v (.int k a))) (hy : evu env y = some (.v (.int k b))) (hb : b ≠ 0) :
    FStep P ⟨d, .binOp .rem t x y t2, ty, pos, af, g⟩ env h 0 (fun _ => .v (.int k (a.tmod b))) (fun _ => []) := fs_bin hx hy fun w => by simp [binOp, Op.intDiv, hb]
theorem fs_lss {t t2 : TypeId} {x y : Operand} {k : IntKind} {a b : Int} (hx : evu env x = some (.v (.int k a))) (hy : evu env y = some (.v (.int k b))) :
    FStep P ⟨d, .binOp .lss t x y t2, ty, pos, af, g⟩ env h 0 (fun _ => .b (decide (a < b))) (fun _ => []) := fs_bin hx hy fun w => by simp [binOp, Op.intCmp]
theorem fs_leq {t t2 : TypeId} {x y : Operand} {k : IntKind} {a b : Int} (hx : evu env x = some (.v (.int k a))) (hy : evu env y = some (.v (.int k b))) :
    FStep P ⟨d, .binOp .leq t x y t2, ty, pos, af, g⟩ env h 0 (fun _ => .b (decide (a ≤ b))) (fun _ => []) := fs_bin hx hy fun w => by simp [binOp, Op.intCmp]
theorem fs_gtr {t t2 : TypeId} {x y : Operand} {k : IntKind} {a b : Int} (hx : evu env x = some (.v (.int k a))) (hy : evu env y = some (.v (.int k b))) :
    FStep P ⟨d, .binOp .gtr t x y t2, ty, pos, af, g⟩ env h 0 (fun _ => .b (decide (b < a))) (fun _ => []) := fs_bin hx hy fun w => by simp [binOp, Op.intCmp]
theorem fs_geq {t t2 : TypeId} {x y : Operand} {k : IntKind} {a b : Int} (hx : evu env x = some (.v (.int k a))) (hy : evu env y = some (.v (.int k b))) :
    FStep P ⟨d, .binOp .geq t x y t2, ty, pos, af, g⟩ env h 0 (fun _ => .b (decide (b ≤ a))) (fun _ => []) := fs_bin hx hy fun w => by simp [binOp, Op.intCmp]
theorem fs_eql {t t2 : TypeId} {x y : Operand} {k : IntKind} {a b : Int} (hx : evu env x = some (.v (.int k a))) (hy : evu env y = some (.v (.int k b))) :
    FStep P ⟨d, .binOp .eql t x y t2, ty, pos, af, g⟩ env h 0 (fun _ => .b (decide (a = b))) (fun _ => []) := fs_bin hx hy fun w => by simp [binOp, Op.intCmp]; rfl
theorem fs_neq {t t2 : TypeId} {x y : Operand} {k : IntKind} {a b : Int} (hx : evu env x = some (.v (.int k a))) (hy : evu env y = some (.v (.int k b))) :
    FStep P ⟨d, .binOp .neq t x y t2, ty, pos, af, g⟩ env h 0 (fun _ => .b (!decide (a = b))) (fun _ => []) := fs_bin hx hy fun w => by simp [binOp, Op.intCmp]; rfl
theorem fs_not {t : TypeId} {x : Operand} {b : Bool} (hx : evu env x = some (.b b)) : FStep P ⟨d, .unOp .not t x, ty, pos, af, g⟩ env h 0 (fun _ => .b (!b)) (fun _ => []) := by
  refine fs_val fun ρ S a w p => ⟨.bool !b, ?_, R_v_mk _⟩
  have h1 := R_v (p.evu hx)
  simp [execOp, h1, Op.unary]
theorem fs_neg {t : TypeId} {x : Operand} {k : IntKind} {a : Int} (hx : evu env x = some (.v (.int k a))) : FStep P ⟨d, .unOp .neg t x, ty, pos, af, g⟩ env h 0 (fun _ => .v (.int k (k.wrap (-a)))) (fun _ => []) := by
  refine fs_val fun ρ S ac w p => ⟨_, ?_, R_v_mk _⟩
  have h1 := R_v (p.evu hx)
  simp [execOp, h1, Op.unary, Op.intArith]

/-! ### Variables -/
theorem fs_alloc (T : Tab P) {t : TypeId} {i : TI} (hz : T.ti t = some i) : FStep P ⟨d, .alloc t, ty, pos, af, g⟩ env h 1 (fun p => .ptr p 0) (fun _ => [.cells (i.zero.map .v)]) := by
  refine fs_new fun ρ S a w p => ?_
  obtain ⟨zv, h1, h2⟩ := T.zeroV hz w
  refine ⟨zv.cells, t, .pointer (some ⟨w.heap.size, 0, none⟩), false, ?_, fun pos hpos w' hw' _ => ⟨?_, ?_⟩⟩
  · simp [execOp, Instr.alloc, h1, newVar, newRow]
  · simp [R, Pl.with]
  · simp only [RB]
    refine ⟨_, _, i.zero, rfl, ⟨zv.cells, t, hw', fun j y hy => ?_⟩, RL_of _ _ (by simp) fun j x y hx hy => ?_⟩
    · rw [← h2] at hy; simpa using hy
    · simp only [List.getElem?_map] at hx
      rw [hy] at hx
      simp only [Option.map_some, Option.some.injEq] at hx
      subst hx
      exact R_v_mk y
theorem fs_box {t : TypeId} {x : Operand} {u : AV} {cs : List AV} (hx : evu env x = some u) (hc : u.cellsOf = some cs) : FStep P ⟨d, .box t x, ty, pos, af, g⟩ env h 1 (fun p => .ptr p 0) (fun _ => [.cells cs]) := by
  refine fs_new fun ρ S a w p => ?_
  refine ⟨(a.eval x).cells, t, .pointer (some ⟨w.heap.size, 0, none⟩), false, ?_, fun pos hpos w' hw' l => ⟨?_, ?_⟩⟩
  · simp [execOp, Instr.box, newVar, newRow]
  · simp [R, Pl.with]
  · simp only [RB]
    exact ⟨_, _, (a.eval x).cells.toList, rfl, ⟨_, t, hw', fun j y hy => by simpa using hy⟩, (cellsOf_val (p.evu hx) hc).later l⟩

/-- The cells behind a pointer. -/
def behind (h : Hp) : AV → Option (List AV × Nat)
  | .ptr k off => match h[k]? with
    | some (.cells cs) => some (cs, off)
    | _ => none
  | .ep k i off sz => match h[k]? with
    | some (.arr es s) => match Nat.beq s sz with
      | true => match es[i]? with
        | some cs => some (cs, off)
        | none => none
      | false => none
    | _ => none
  | .pr cs off => some (cs, off)
  | _ => none
theorem flatten_at {α : Type} {sz : Nat} : ∀ {es : List (List α)}, (∀ e, e ∈ es → e.length = sz) → ∀ {i : Nat} {c : List α}, es[i]? = some c → ∀ j, j < sz → es.flatten[i * sz + j]? = c[j]?
  | [], _, i, c, hc, j, hj => by simp at hc
  | e :: es, hl, 0, c, hc, j, hj => by
    simp only [List.getElem?_cons_zero, Option.some.injEq] at hc
    subst hc
    simp only [List.flatten_cons, Nat.zero_mul, Nat.zero_add]
    rw [List.getElem?_append_left (by rw [hl e (by simp)]; exact hj)]
  | e :: es, hl, i + 1, c, hc, j, hj => by
    simp only [List.getElem?_cons_succ] at hc
    have h0 := hl e (by simp)
    simp only [List.flatten_cons]
    rw [List.getElem?_append_right (by rw [h0, Nat.add_mul]; omega), h0, show (i + 1) * sz + j - sz = i * sz + j by rw [Nat.add_mul]; omega]
    exact flatten_at (fun e he => hl e (by simp [he])) hc j hj

/-- A pointer of the model, and the cells that lie there. -/
theorem behind_val {S : Nat → Prop} {w : World} {ρ : Pl} {x : AV} {y : Value} {cs : List AV} {off : Nat} (hb : ∀ (k : Nat) b, h[k]? = some b → RB S w ρ (ρ k) b) (hy : R S w x ρ y) (hc : behind h x = some (cs, off)) :
    ∃ b o ρ', y = .pointer (some ⟨b, o + off, none⟩) ∧ ∀ (j : Nat) u, cs[j]? = some u → ∃ v, w.cell? ⟨b, o + j, none⟩ = some v ∧ R S w u ρ' v ∧ ((ρ' = fun _ => none) ∨ ρ' = ρ) := by
  have cellOf : ∀ {b o j : Nat} {ys : List Value} {v : Value}, lies w b o ys → ys[j]? = some v → w.cell? ⟨b, o + j, none⟩ = some v := fun {b o j ys v} hl hv => by
    obtain ⟨c, e, fz, h1, h2⟩ := hl
    simp [World.cell?, h1, h2 j v hv]
  cases x with
  | ptr k off' =>
    simp only [behind] at hc
    split at hc
    · rename_i cs' hk
      simp only [Option.some.injEq, Prod.mk.injEq] at hc
      obtain ⟨rfl, rfl⟩ := hc
      simp only [R] at hy
      obtain ⟨b, o, h1, rfl⟩ := hy
      have h2 := hb k _ hk
      simp only [RB, h1] at h2
      obtain ⟨b', o', ys, h3, h4, h5⟩ := h2
      simp only [Option.some.injEq, Prod.mk.injEq] at h3
      obtain ⟨rfl, rfl⟩ := h3
      refine ⟨b, o, ρ, rfl, fun j u hu => ?_⟩
      obtain ⟨v, h6, h7⟩ := RL_get h5 j u hu
      exact ⟨v, cellOf h4.lies h6, h7, .inr rfl⟩
    · cases hc
  | ep k i off' sz =>
    simp only [behind] at hc
    split at hc
    · rename_i es sz' hk
      split at hc
      · rename_i hbeq
        have hsz := Nat.eq_of_beq_eq_true hbeq
        subst hsz
        split at hc
        case h_2 => cases hc
        rename_i cs' hi
        simp only [Option.some.injEq, Prod.mk.injEq] at hc
        obtain ⟨rfl, rfl⟩ := hc
        simp only [R] at hy
        obtain ⟨b, o, h1, rfl⟩ := hy
        have h2 := hb k _ hk
        simp only [RB, h1] at h2
        obtain ⟨h20, _, h2⟩ := h2
        rcases h2 with h2 | ⟨b', o', ys, h3, h4, h5⟩
        · subst h2; simp at hi
        simp only [Option.some.injEq, Prod.mk.injEq] at h3
        obtain ⟨rfl, rfl⟩ := h3
        refine ⟨b, o + i * sz', ρ, by rw [Nat.add_assoc], fun j u hu => ?_⟩
        have hl := h20 _ (List.mem_of_getElem? hi)
        have hj : j < sz' := by rw [← hl]; exact (List.getElem?_eq_some_iff.1 hu).1
        obtain ⟨v, h6, h7⟩ := RL_get h5 (i * sz' + j) u (by rw [flatten_at h20 hi j hj]; exact hu)
        exact ⟨v, by rw [Nat.add_assoc]; exact cellOf h4.lies h6, h7, .inr rfl⟩
      · cases hc
    · cases hc
  | pr cs' off' =>
    simp only [behind, Option.some.injEq, Prod.mk.injEq] at hc
    obtain ⟨rfl, rfl⟩ := hc
    simp only [R] at hy
    obtain ⟨b, o, ys, rfl, _, h3, h4⟩ := hy
    refine ⟨b, o, fun _ => none, rfl, fun j u hu => ?_⟩
    obtain ⟨v, h6, h7⟩ := RL_get h4 j u hu
    exact ⟨v, cellOf h3 h6, h7, .inl rfl⟩
  | _ => simp [behind] at hc

end
end Go.Ab
