/-
  A logic of values for the walk, texts 22, 23, 24.
-/
import Derived.Test.YtcdgmjfmmnklnaaAb21

/-! A logic of values for the walk, twenty-second part: fields of structures that are values, stores at a cell that is not known, masks of any number. -/
namespace Go.Ab
open Go
set_option linter.unusedVariables false
set_option linter.unusedSimpArgs false

section
variable {P : Program} {env : Env} {h : Hp}
variable {d : Option Nat} {ty : TypeId} {pos : String} {af : Array Edge} {g : Option (Nat × Bool)}
end

end Go.Ab

/-! A logic of values for the walk, twenty-third part: in a region that draws its order, an operation that only takes a part of a value may be thought to come before a store that does not wait for it. -/
namespace Go.Ab
open Go
set_option linter.unusedVariables false
set_option linter.unusedSimpArgs false

section
variable {P : Program} {ops ops' : Array Oper} {i j : Nat} {oi oj : Oper} {Q : Exit → Act → World → Prop}

end

section
variable {P : Program} {n : Nat × Nat} {env : Env} {h : Hp}
end
end Go.Ab

/-! A logic of values for the walk, twenty-fourth part: in a region that draws its order, operations that look at no memory may be thought to come first. -/
namespace Go.Ab
open Go
set_option linter.unusedVariables false
set_option linter.unusedSimpArgs false

def PStep (P : Program) (o : Oper) (env : Env) (h : Hp) (u : AV) : Prop :=
  ∀ ρ S a w, Pre ρ S env h a w → ∃ y, (∀ w', (execOp a.eval o).run P w' = .ok (.value y) w') ∧ R S w u ρ y

section
variable {P : Program} {env : Env} {h : Hp}
variable {d : Option Nat} {ty : TypeId} {pos : String} {af : Array Edge} {g : Option (Nat × Bool)}
end

def AnyAt (P : Program) (n : Nat × Nat) (ops : Array Oper) (listed : Array Bool) (r : Nat) (env : Env) (h : Hp) (K : Env → Hp → Prop) : Prop :=
  ∀ c ρ S a w QQ, Sim n c ρ S env h a w → (∀ e a w, QQ e a w → e = Exit.normal) → (∀ env' h' ρ' S' a' w', K env' h' → Sim n c ρ' S' env' h' a' w' → QQ Exit.normal a' w') → wpAny P .any ops QQ r listed a w

section
variable {P : Program} {n : Nat × Nat} {ops : Array Oper} {env : Env} {h : Hp} {K : Env → Hp → Prop} {listed : Array Bool} {r : Nat}
theorem any_p {i dd : Nat} {op : Op} {ty : TypeId} {pos : String} {af : Array Edge} {u : AV} (i' : Nat) (hi' : i' = i) (ho : ops[i]? = some ⟨some dd, op, ty, pos, af, none⟩) (hs : Region.noSelect ops = true) (hf : Region.free .any ops listed i = true) (hr : (Region.ready .any ops listed).contains i = true) (hp : PStep P ⟨some dd, op, ty, pos, af, none⟩ env h u) (hd : Nat.blt dd n.1 = true)
    (hk : AnyAt P n ops (listed.setIfInBounds i true) r ((dd, u) :: env) h K) : AnyAt P n ops listed (r + 1) env h K := by
  intro c ρ S a w QQ s hq hQ
  obtain ⟨y, h1, h2⟩ := hp ρ S a w s.pre
  refine wpAny_take ho hs hf hr (fun c a w hp => by have := hq _ _ _ hp; cases this) (.inl ⟨wanted_none rfl, h1⟩) ?_
  exact hk c ρ S (a.put (some dd) y) w QQ ⟨by rw [size_put]; exact s.size, by rw [defers_put]; exact s.defers, env_put (d := some dd) s.size hd s.env h2, s.hs, s.cm⟩ hq hQ
theorem Sim.drew {c : Ctx} {ρ : Pl} {S : Nat → Prop} {a : Act} {w : World} (s : Sim n c ρ S env h a w) : Sim n c ρ S env h a { w with drawn := w.drawn + 1 } := by
  have l0 : Later ρ ρ S S w { w with drawn := w.drawn + 1 } := ⟨fun _ _ h => h, fun _ h => h, fun _ _ => rfl, fun _ _ _ _ _ h => h⟩
  refine ⟨s.size, s.defers.later l0, fun t x hx => (s.env t x hx).later l0, ?_, s.cm⟩
  exact ⟨s.hs.dom, s.hs.rng, fun k b hb => RB.later l0 (fun _ _ _ => rfl) (s.hs.blk k b hb), s.hs.live, s.hs.inj, s.hs.stab, s.hs.ext.drew, s.hs.st0, s.hs.st1, s.hs.mle, s.hs.keep, s.hs.glob.later l0⟩
theorem aw_anyAt {Q : Exit → Env → Hp → Prop} {id : Nat} {l : List Oper} (hm : P.follows .mixedOrders = true) (hv : AnyAt P n l.toArray (Array.replicate l.length false) l.length env h (fun v h => Q .normal v h)) (hndf : noDef l = true := by rfl) : AW P n (.region id l.toArray true) env h Q := by
  intro c ρ S a w QQ s hQ
  have h1 := hv c ρ S a { w with drawn := w.drawn + 1 } (fun e a w => e = .normal ∧ QQ .normal a w) s.drew (fun e a w h => h.1) fun env' h' ρ' S' a' w' k s' => ⟨rfl, hQ .normal env' h' ρ' S' a' w' k s'⟩
  exact region_any_in hm hndf (by simpa using h1)
end
theorem aw_keep {P : Program} {n : Nat × Nat} {code : Code} {env : Env} {h : Hp} {Q : Exit → Env → Hp → Prop} (env' : Env) (h' : Hp) (hs : Sub n.2 env h env' h') (hv : AW P n code env' h' Q) : AW P n code env h Q := aw_sub hs hv
structure Hold (T : Prop) : Prop where
  get : T
theorem cutT {G T : Prop} (h : Hold T → G) (ht : T) : G := h ⟨ht⟩
section
variable {P : Program} {env : Env} {h : Hp} {d : Option Nat} {ty : TypeId} {pos : String} {af : Array Edge} {g : Option (Nat × Bool)}
theorem fs_eqlT {t t2 : TypeId} {x y : Operand} {a b : Int} (hx : evu env x = some (.i a)) (hy : evu env y = some (.i b)) (e : a = b) : FStep P ⟨d, .binOp .eql t x y t2, ty, pos, af, g⟩ env h 0 (fun _ => .b true) (fun _ => []) := by
  have := fs_eql (P := P) (d := d) (ty := ty) (pos := pos) (af := af) (g := g) (h := h) (t := t) (t2 := t2) hx hy
  simpa [e] using this
theorem fs_eqlF {t t2 : TypeId} {x y : Operand} {a b : Int} (hx : evu env x = some (.i a)) (hy : evu env y = some (.i b)) (e : a ≠ b) : FStep P ⟨d, .binOp .eql t x y t2, ty, pos, af, g⟩ env h 0 (fun _ => .b false) (fun _ => []) := by
  have := fs_eql (P := P) (d := d) (ty := ty) (pos := pos) (af := af) (g := g) (h := h) (t := t) (t2 := t2) hx hy
  simpa [e] using this
theorem fs_neqT {t t2 : TypeId} {x y : Operand} {a b : Int} (hx : evu env x = some (.i a)) (hy : evu env y = some (.i b)) (e : a ≠ b) : FStep P ⟨d, .binOp .neq t x y t2, ty, pos, af, g⟩ env h 0 (fun _ => .b true) (fun _ => []) := by
  have := fs_neq (P := P) (d := d) (ty := ty) (pos := pos) (af := af) (g := g) (h := h) (t := t) (t2 := t2) hx hy
  simpa [e] using this
theorem fs_neqF {t t2 : TypeId} {x y : Operand} {a b : Int} (hx : evu env x = some (.i a)) (hy : evu env y = some (.i b)) (e : a = b) : FStep P ⟨d, .binOp .neq t x y t2, ty, pos, af, g⟩ env h 0 (fun _ => .b false) (fun _ => []) := by
  have := fs_neq (P := P) (d := d) (ty := ty) (pos := pos) (af := af) (g := g) (h := h) (t := t) (t2 := t2) hx hy
  simpa [e] using this
theorem fs_eqlBs {t t2 : TypeId} {x y : Operand} {a : Bool} (ht : BoolT P t) (hx : evu env x = some (.b a)) (hy : evu env y = some (.b a)) : FStep P ⟨d, .binOp .eql t x y t2, ty, pos, af, g⟩ env h 0 (fun _ => .b true) (fun _ => []) := by
  have := fs_eqlB (d := d) (ty := ty) (pos := pos) (af := af) (g := g) (h := h) (t2 := t2) ht hx hy
  simpa using this
end
end Go.Ab
