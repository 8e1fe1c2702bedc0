/-
  Layer 7: what the laws' walks share.
-/
import Derived.Test.YtilcbhnhcmdhkaaFl8
namespace Go.Proofs.Ytilcbhnhcmdhkaa
open Go Go.Ab Go.Fl
set_option linter.unusedVariables false
set_option linter.unusedSimpArgs false
/-- Of a state only this is kept. -/
theorem aw_sub {P : Program} {n : Nat × Nat} {code : Code} {env : Env} {h : Hp} {Q : Exit → Env → Hp → Prop} (env' : Env) (h' : Hp) (hs : Sub n.2 env h env' h') (hv : AW P n code env' h' Q) : AW P n code env h Q := fun c ρ S a w QQ s hQ => by
  obtain ⟨ρ', s'⟩ := s.sub hs
  exact hv c ρ' S a w QQ s' hQ
structure Hold (T : Prop) : Prop where
  get : T
/-- What is left is the same in several cases: it is shown once. -/
theorem cutT {G T : Prop} (h : Hold T → G) (ht : T) : G := h ⟨ht⟩
attribute [local irreducible] VC AW FStep ACall BoolT
set_option maxHeartbeats 4000000

theorem boolT : BoolT Try.prog 4 := by unfold BoolT; kernel_rfl
section
variable {P : Program} {env : Env} {h : Hp} {d : Option Nat} {ty : TypeId} {pos : String} {af : Array Edge} {g : Option (Nat × Bool)}
theorem fs_eqlT {t t2 : TypeId} {x y : Operand} {a b : Int} (hx : evu env x = some (.i a)) (hy : evu env y = some (.i b)) (e : a = b) : FStep P ⟨d, .binOp .eql t x y t2, ty, pos, af, g⟩ env h 0 (fun _ => .b true) (fun _ => []) := by
  have := fs_eql (P := P) (d := d) (ty := ty) (pos := pos) (af := af) (g := g) (h := h) (t := t) (t2 := t2) hx hy
  simpa [e] using this
theorem fs_eqlF {t t2 : TypeId} {x y : Operand} {a b : Int} (hx : evu env x = some (.i a)) (hy : evu env y = some (.i b)) (e : a ≠ b) : FStep P ⟨d, .binOp .eql t x y t2, ty, pos, af, g⟩ env h 0 (fun _ => .b false) (fun _ => []) := by
  have := fs_eql (P := P) (d := d) (ty := ty) (pos := pos) (af := af) (g := g) (h := h) (t := t) (t2 := t2) hx hy
  simpa [e] using this
theorem fs_neqT {t t2 : TypeId} {x y : Operand} {a b : Int} (hx : evu env x = some (.i a)) (hy : evu env y = some (.i b)) (e : a ≠ b) : FStep P ⟨d, .binOp .neq t x y t2, ty, pos, af, g⟩ env h 0 (fun _ => .b true) (fun _ => []) := by
  have := fs_neq (P := P) (d := d) (ty := ty) (pos := pos) (af := af) (g := g) (h := h) (t := t) (t2 := t2) hx hy
  simpa [e] using this
theorem fs_neqF {t t2 : TypeId} {x y : Operand} {a b : Int} (hx : evu env x = some (.i a)) (hy : evu env y = some (.i b)) (e : a = b) : FStep P ⟨d, .binOp .neq t x y t2, ty, pos, af, g⟩ env h 0 (fun _ => .b false) (fun _ => []) := by
  have := fs_neq (P := P) (d := d) (ty := ty) (pos := pos) (af := af) (g := g) (h := h) (t := t) (t2 := t2) hx hy
  simpa [e] using this
end
theorem fair_fine' {f : Flo} (h : FairP f) : Fine f := right_fine h.1 h.2.1
theorem mem_cells {f : Flo} {l : List Int} {c : Nat} (hc : (c : Int) < f.size) : c ∈ cellsF f l ↔ (c : Int) ∈ l := by
  unfold cellsF
  rw [List.mem_filterMap]
  constructor
  · rintro ⟨x, h1, h2⟩
    split at h2
    · rename_i h3
      have : x.toNat = c := Option.some.inj h2
      have e : x = c := by omega
      rw [← e]; exact h1
    · cases h2
  · intro h
    exact ⟨c, h, by rw [if_pos ⟨by omega, hc⟩]; simp⟩
theorem dist_far {f : Flo} (g : Fine f) (fr avoid : List Int) : Far f.k.length (mvN f) (okF f avoid) (fun c => (c : Int) ∈ fr) (fun c => (distM f fr avoid).getD c (-1)) ∧ (distM f fr avoid).length = f.k.length ∧ ∀ c, c < f.k.length → (distM f fr avoid).getD c (-1) ≤ f.k.length := by
  have h := spread_far (ok := okF f avoid) (mvN_lt g) (cellsF f fr) (cells_lt (size_eq g))
  have h2 := spread_le (ok := okF f avoid) (mvN_lt g) (cellsF f fr) (cells_lt (size_eq g))
  refine ⟨?_, h.2, h2⟩
  obtain ⟨a1, a2, a3, a4, a5⟩ := h.1
  exact ⟨a1, a2, fun c hc => (a3 c hc).trans (by rw [mem_cells (by have := size_eq g; omega)]), a4, a5⟩
theorem pass_ok {f : Flo} (g : Fine f) {c d n : Nat} (h : mvN f c d = some n) (avoid : List Int) : n < f.k.length ∧ okF f avoid n = decide ((n : Int) ∉ avoid) := by
  obtain ⟨r1, r2, r3, r4, r5⟩ := next_some g ((mvN_some g).1 h)
  have hk := size_eq g
  have h2 : f.k.getD n 0 ≠ 0 := by
    have := r5.2.1
    unfold kindI at this
    rwa [Int.toNat_natCast] at this
  exact ⟨by omega, by unfold okF; rw [decide_eq_true h2, Bool.true_and]⟩

end Go.Proofs.Ytilcbhnhcmdhkaa
