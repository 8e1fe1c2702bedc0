/-
  Layer 8: what the laws' walks share.
-/
import Derived.Test.YtlpffgndackglaaRe10
namespace Go.Proofs.Ytlpffgndackglaa
open Go Go.Ab Go.Fl Go.Re
set_option linter.unusedVariables false
set_option linter.unusedSimpArgs false
/-- Of a state only this is kept. -/
theorem aw_sub {P : Program} {n : Nat × Nat} {code : Code} {env : Env} {h : Hp} {Q : Exit → Env → Hp → Prop} (env' : Env) (h' : Hp) (hs : Sub n.2 env h env' h') (hv : AW P n code env' h' Q) : AW P n code env h Q := fun c ρ S a w QQ s hQ => by
  obtain ⟨ρ', s'⟩ := s.sub hs
  exact hv c ρ' S a w QQ s' hQ
structure Hold (T : Prop) : Prop where
  get : T
/-- What is left is the same in several cases: it is shown once. -/
theorem cutT {G T : Prop} (h : Hold T → G) (ht : T) : G := h ⟨ht⟩
attribute [local irreducible] VC AW FStep ACall BoolT
set_option maxHeartbeats 4000000

theorem boolT : BoolT Try.prog 4 := by unfold BoolT; kernel_rfl
section
variable {P : Program} {env : Env} {h : Hp} {d : Option Nat} {ty : TypeId} {pos : String} {af : Array Edge} {g : Option (Nat × Bool)}
theorem fs_eqlT {t t2 : TypeId} {x y : Operand} {a b : Int} (hx : evu env x = some (.i a)) (hy : evu env y = some (.i b)) (e : a = b) : FStep P ⟨d, .binOp .eql t x y t2, ty, pos, af, g⟩ env h 0 (fun _ => .b true) (fun _ => []) := by
  have := fs_eql (P := P) (d := d) (ty := ty) (pos := pos) (af := af) (g := g) (h := h) (t := t) (t2 := t2) hx hy
  simpa [e] using this
theorem fs_eqlF {t t2 : TypeId} {x y : Operand} {a b : Int} (hx : evu env x = some (.i a)) (hy : evu env y = some (.i b)) (e : a ≠ b) : FStep P ⟨d, .binOp .eql t x y t2, ty, pos, af, g⟩ env h 0 (fun _ => .b false) (fun _ => []) := by
  have := fs_eql (P := P) (d := d) (ty := ty) (pos := pos) (af := af) (g := g) (h := h) (t := t) (t2 := t2) hx hy
  simpa [e] using this
theorem fs_neqT {t t2 : TypeId} {x y : Operand} {a b : Int} (hx : evu env x = some (.i a)) (hy : evu env y = some (.i b)) (e : a ≠ b) : FStep P ⟨d, .binOp .neq t x y t2, ty, pos, af, g⟩ env h 0 (fun _ => .b true) (fun _ => []) := by
  have := fs_neq (P := P) (d := d) (ty := ty) (pos := pos) (af := af) (g := g) (h := h) (t := t) (t2 := t2) hx hy
  simpa [e] using this
theorem fs_neqF {t t2 : TypeId} {x y : Operand} {a b : Int} (hx : evu env x = some (.i a)) (hy : evu env y = some (.i b)) (e : a = b) : FStep P ⟨d, .binOp .neq t x y t2, ty, pos, af, g⟩ env h 0 (fun _ => .b false) (fun _ => []) := by
  have := fs_neq (P := P) (d := d) (ty := ty) (pos := pos) (af := af) (g := g) (h := h) (t := t) (t2 := t2) hx hy
  simpa [e] using this
theorem fs_lssT {t t2 : TypeId} {x y : Operand} {a b : Int} (hx : evu env x = some (.i a)) (hy : evu env y = some (.i b)) (e : a < b) : FStep P ⟨d, .binOp .lss t x y t2, ty, pos, af, g⟩ env h 0 (fun _ => .b true) (fun _ => []) := by
  have := fs_lss (P := P) (d := d) (ty := ty) (pos := pos) (af := af) (g := g) (h := h) (t := t) (t2 := t2) hx hy
  simpa [e] using this
theorem fs_lssF {t t2 : TypeId} {x y : Operand} {a b : Int} (hx : evu env x = some (.i a)) (hy : evu env y = some (.i b)) (e : b ≤ a) : FStep P ⟨d, .binOp .lss t x y t2, ty, pos, af, g⟩ env h 0 (fun _ => .b false) (fun _ => []) := by
  have := fs_lss (P := P) (d := d) (ty := ty) (pos := pos) (af := af) (g := g) (h := h) (t := t) (t2 := t2) hx hy
  simpa [show ¬ a < b by omega] using this
end
theorem mem_cells {f : Flo} {l : List Int} {c : Nat} (hc : (c : Int) < f.size) : c ∈ cellsF f l ↔ (c : Int) ∈ l := by
  unfold cellsF
  rw [List.mem_filterMap]
  constructor
  · rintro ⟨x, h1, h2⟩
    split at h2
    · rename_i h3
      have : x.toNat = c := Option.some.inj h2
      have e : x = c := by omega
      rw [← e]; exact h1
    · cases h2
  · intro h
    exact ⟨c, h, by rw [if_pos ⟨by omega, hc⟩]; simp⟩
theorem ints_gD {l : List Int} {k : Nat} (d : Int) (h : k < l.length) : (ints l)[k]? = some [AV.i (l.getD k d)] := by
  rw [ints_get h, List.getD_eq_getElem?_getD, List.getElem?_eq_getElem h]; rfl
theorem getD_mem {r : List Int} {i : Nat} (h : i < r.length) : r.getD i 0 ∈ r := by
  rw [List.getD_eq_getElem?_getD, List.getElem?_eq_getElem h]; exact List.getElem_mem h
theorem reg_nat {r : List Int} (hr : RegP r) {i : Nat} (h : i < r.length) : ∃ c : Nat, r.getD i 0 = (c : Int) ∧ (c : Int) ∈ r := by
  have hm := getD_mem h
  obtain ⟨c, hc⟩ := Int.eq_ofNat_of_zero_le (hr.2 _ hm).1
  exact ⟨c, hc, by rw [← hc]; exact hm⟩
theorem okR_t {f : Flo} {r : List Int} {c : Nat} : okR f r c = true ↔ f.k.getD c 0 ≠ 0 ∧ (c : Int) ∈ r := by
  unfold okR; rw [Bool.and_eq_true, decide_eq_true_eq, decide_eq_true_eq]
theorem diff_sub {a b : List Int} (ha : Asc a) (hb : Asc b) (h : ∀ x, x ∈ a → x ∈ b) : diffM a b = [] := by
  rw [List.eq_nil_iff_forall_not_mem]
  exact fun x hx => ((mem_diff ha hb).1 hx).2 (h x ((mem_diff ha hb).1 hx).1)
end Go.Proofs.Ytlpffgndackglaa
