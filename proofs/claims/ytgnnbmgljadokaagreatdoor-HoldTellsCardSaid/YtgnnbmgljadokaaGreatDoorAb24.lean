/-
  A logic of values for the walk, texts 22, 23, 24.
-/
import Derived.Test.YtgnnbmgljadokaaGreatDoorAb21

/-! A logic of values for the walk, twenty-second part: fields of structures that are values, stores at a cell that is not known, masks of any number. -/
namespace Go.Ab
open Go
set_option linter.unusedVariables false
set_option linter.unusedSimpArgs false

section
variable {P : Program} {env : Env} {h : Hp}
variable {d : Option Nat} {ty : TypeId} {pos : String} {af : Array Edge} {g : Option (Nat × Bool)}
theorem fs_sliceToE (T : Tab P) {t e sz k : Nat} {es : List (List AV)} {i : TI} {x : Operand} {hi : Option Operand} (hx : evu env x = some (.rowE es sz)) (ht : T.elem t = some e) (he : T.ti e = some i) (hs : i.size = sz) (hhi : evB env hi es.length = some (k : Int)) (h2 : k ≤ es.length) (hl : ∀ e, e ∈ es → e.length = sz) :
    FStep P ⟨d, .slice t x none hi none, ty, pos, af, g⟩ env h 0 (fun _ => .rowE (es.take k) sz) (fun _ => []) := by
  have := fs_sliceRowE (env := env) (h := h) (d := d) (ty := ty) (pos := pos) (af := af) (g := g) (lo := none) (l := 0) T hx ht he hs rfl hhi (by omega) (by omega) (by omega) hl
  simpa using this
theorem fs_sliceFromE (T : Tab P) {t e sz k : Nat} {es : List (List AV)} {i : TI} {x : Operand} {lo : Option Operand} (hx : evu env x = some (.rowE es sz)) (ht : T.elem t = some e) (he : T.ti e = some i) (hs : i.size = sz) (hlo : evB env lo 0 = some (k : Int)) (h2 : k ≤ es.length) (hl : ∀ e, e ∈ es → e.length = sz) :
    FStep P ⟨d, .slice t x lo none none, ty, pos, af, g⟩ env h 0 (fun _ => .rowE (es.drop k) sz) (fun _ => []) := by
  have := fs_sliceRowE (env := env) (h := h) (d := d) (ty := ty) (pos := pos) (af := af) (g := g) (hi := none) (r := (es.length : Int)) T hx ht he hs hlo rfl (by omega) (by omega) (by omega) hl
  have e1 : ((es.length : Int) - (k : Int)).toNat = es.length - k := by omega
  rw [e1] at this
  rw [show ((es.drop ((k : Int).toNat)).take (es.length - k)) = es.drop k by rw [Int.toNat_natCast]; exact List.take_of_length_le (by simp)] at this
  exact this
end

end Go.Ab

/-! A logic of values for the walk, twenty-third part: in a region that draws its order, an operation that only takes a part of a value may be thought to come before a store that does not wait for it. -/
namespace Go.Ab
open Go
set_option linter.unusedVariables false
set_option linter.unusedSimpArgs false

section
variable {P : Program} {ops ops' : Array Oper} {i j : Nat} {oi oj : Oper} {Q : Exit → Act → World → Prop}

end

section
variable {P : Program} {n : Nat × Nat} {env : Env} {h : Hp}
end
end Go.Ab

/-! A logic of values for the walk, twenty-fourth part: in a region that draws its order, operations that look at no memory may be thought to come first. -/
namespace Go.Ab
open Go
set_option linter.unusedVariables false
set_option linter.unusedSimpArgs false

section
variable {P : Program} {env : Env} {h : Hp}
variable {d : Option Nat} {ty : TypeId} {pos : String} {af : Array Edge} {g : Option (Nat × Bool)}
end

section
variable {P : Program} {n : Nat × Nat} {ops : Array Oper} {env : Env} {h : Hp} {K : Env → Hp → Prop} {listed : Array Bool} {r : Nat}
theorem Sim.drew {c : Ctx} {ρ : Pl} {S : Nat → Prop} {a : Act} {w : World} (s : Sim n c ρ S env h a w) : Sim n c ρ S env h a { w with drawn := w.drawn + 1 } := by
  have l0 : Later ρ ρ S S w { w with drawn := w.drawn + 1 } := ⟨fun _ _ h => h, fun _ h => h, fun _ _ => rfl, fun _ _ _ _ _ h => h⟩
  refine ⟨s.size, s.defers.later l0, fun t x hx => (s.env t x hx).later l0, ?_, s.cm⟩
  exact ⟨s.hs.dom, s.hs.rng, fun k b hb => RB.later l0 (fun _ _ _ => rfl) (s.hs.blk k b hb), s.hs.live, s.hs.inj, s.hs.stab, s.hs.ext.drew, s.hs.st0, s.hs.st1, s.hs.mle, s.hs.keep, s.hs.glob.later l0⟩
end
theorem aw_keep {P : Program} {n : Nat × Nat} {code : Code} {env : Env} {h : Hp} {Q : Exit → Env → Hp → Prop} (env' : Env) (h' : Hp) (hs : Sub n.2 env h env' h') (hv : AW P n code env' h' Q) : AW P n code env h Q := aw_sub hs hv
structure Hold (T : Prop) : Prop where
  get : T
theorem cutT {G T : Prop} (h : Hold T → G) (ht : T) : G := h ⟨ht⟩
section
variable {P : Program} {env : Env} {h : Hp} {d : Option Nat} {ty : TypeId} {pos : String} {af : Array Edge} {g : Option (Nat × Bool)}
theorem fs_eqlT {t t2 : TypeId} {x y : Operand} {a b : Int} (hx : evu env x = some (.i a)) (hy : evu env y = some (.i b)) (e : a = b) : FStep P ⟨d, .binOp .eql t x y t2, ty, pos, af, g⟩ env h 0 (fun _ => .b true) (fun _ => []) := by
  have := fs_eql (P := P) (d := d) (ty := ty) (pos := pos) (af := af) (g := g) (h := h) (t := t) (t2 := t2) hx hy
  simpa [e] using this
theorem fs_eqlF {t t2 : TypeId} {x y : Operand} {a b : Int} (hx : evu env x = some (.i a)) (hy : evu env y = some (.i b)) (e : a ≠ b) : FStep P ⟨d, .binOp .eql t x y t2, ty, pos, af, g⟩ env h 0 (fun _ => .b false) (fun _ => []) := by
  have := fs_eql (P := P) (d := d) (ty := ty) (pos := pos) (af := af) (g := g) (h := h) (t := t) (t2 := t2) hx hy
  simpa [e] using this
theorem fs_neqT {t t2 : TypeId} {x y : Operand} {a b : Int} (hx : evu env x = some (.i a)) (hy : evu env y = some (.i b)) (e : a ≠ b) : FStep P ⟨d, .binOp .neq t x y t2, ty, pos, af, g⟩ env h 0 (fun _ => .b true) (fun _ => []) := by
  have := fs_neq (P := P) (d := d) (ty := ty) (pos := pos) (af := af) (g := g) (h := h) (t := t) (t2 := t2) hx hy
  simpa [e] using this
theorem fs_neqF {t t2 : TypeId} {x y : Operand} {a b : Int} (hx : evu env x = some (.i a)) (hy : evu env y = some (.i b)) (e : a = b) : FStep P ⟨d, .binOp .neq t x y t2, ty, pos, af, g⟩ env h 0 (fun _ => .b false) (fun _ => []) := by
  have := fs_neq (P := P) (d := d) (ty := ty) (pos := pos) (af := af) (g := g) (h := h) (t := t) (t2 := t2) hx hy
  simpa [e] using this
theorem fs_neqBs {t t2 : TypeId} {x y : Operand} {a : Bool} (ht : BoolT P t) (hx : evu env x = some (.b a)) (hy : evu env y = some (.b a)) : FStep P ⟨d, .binOp .neq t x y t2, ty, pos, af, g⟩ env h 0 (fun _ => .b false) (fun _ => []) := by
  have := fs_neqB (d := d) (ty := ty) (pos := pos) (af := af) (g := g) (h := h) (t2 := t2) ht hx hy
  simpa using this
end
end Go.Ab
