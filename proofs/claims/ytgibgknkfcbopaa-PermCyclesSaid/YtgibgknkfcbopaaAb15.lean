/-
  A logic of values for the walk, fifteenth part: equality of bools and of structs of integers; slices that are made; own slices out of nil.
-/
import Derived.Test.YtgibgknkfcbopaaAb14
import Derived.Laws.StructEq
import Derived.ChangeKeysEq
namespace Go.Ab
open Go
set_option linter.unusedVariables false
set_option linter.unusedSimpArgs false

/-- A struct of integers, a cell each. -/
def intFields (P : Program) : Nat → List Field → Bool
  | _, [] => true
  | i, f :: r => decide (f.name ≠ "_") && Nat.beq f.offset i && (match P.underlying f.type with | some (.int _) => P.plainKey f.type | _ => false) && intFields P (i + 1) r
def intStruct (P : Program) (t : TypeId) (n : Nat) : Bool := match P.underlying t with
  | some (.struct fs) => Nat.beq fs.size n && intFields P 0 fs.toList && !P.stoodInHeld t && !P.eqGuardType P.depth t
  | _ => false

def IntStruct (P : Program) (t : TypeId) (n : Nat) : Prop := intStruct P t n = true
def BoolT (P : Program) (t : TypeId) : Prop := P.underlying t = some .bool

section
variable {P : Program} {env : Env} {h : Hp}
variable {d : Option Nat} {ty : TypeId} {pos : String} {af : Array Edge} {g : Option (Nat × Bool)}

theorem eq_fields (w : World) (dd : Nat) (k : IntKind) : ∀ (fs : List Field) (i : Nat) (xs ys : Array Value) (as bs : List Int), intFields P i fs = true → fs.length = as.length → as.length = bs.length → (∀ (j : Nat) a, as[j]? = some a → xs[i + j]? = some (.int k a)) → (∀ (j : Nat) b, bs[j]? = some b → ys[i + j]? = some (.int k b)) →
    (Op.eqFields (dd + 1) xs ys fs).run P w = .ok (decide (as = bs)) w
  | [], i, xs, ys, as, bs, _, h1, h2, _, _ => by
    have : as = [] := List.eq_nil_of_length_eq_zero (by simpa using h1.symm)
    subst this
    have : bs = [] := List.eq_nil_of_length_eq_zero (by simpa using h2.symm)
    subst this
    simp [Op.eqFields]
  | f :: r, i, xs, ys, a :: as, b :: bs, hf, h1, h2, hx, hy => by
    simp only [intFields, Bool.and_eq_true, decide_eq_true_eq] at hf
    obtain ⟨⟨⟨h3, h4⟩, h5⟩, h6⟩ := hf
    have h4 := Nat.eq_of_beq_eq_true h4
    split at h5
    case h_2 => cases h5
    rename_i k' hu
    have x0 := hx 0 a rfl
    have y0 := hy 0 b rfl
    rw [Nat.add_zero, ← h4] at x0 y0
    have ih := eq_fields w dd k r (i + 1) xs ys as bs h6 (by simpa using h1) (by simpa using h2) (fun j u hj => by rw [Nat.add_assoc, Nat.add_comm 1 j]; exact hx (j + 1) u (by simpa using hj)) (fun j u hj => by rw [Nat.add_assoc, Nat.add_comm 1 j]; exact hy (j + 1) u (by simpa using hj))
    simp only [Op.eqFields, h3, ne_eq, not_false_eq_true, if_true, Sem.run_bind, run_part_plain w h5 x0, run_part_plain w h5 y0, Result.andThen_ok, run_equalIn_int w dd f.type k k' a b hu]
    by_cases hab : a = b
    · subst hab
      simp [ih]
    · have : (a == b) = false := by simpa using hab
      simp [this, hab]
  | f :: r, _, _, _, [], _, _, h1, _, _, _ => by simp at h1
  | f :: r, _, _, _, a :: as, [], _, _, h2, _, _ => by simp at h2

theorem vs_of {S : Nat → Prop} {w : World} {ρ : Pl} {k : IntKind} : ∀ {as : List Int} {ys : List Value}, RL S w (as.map fun a => .v (.int k a)) ρ ys → ys = as.map (.int k)
  | [], _, h => by simpa [RL] using h
  | a :: as, _, h => by
    simp only [List.map_cons, RL] at h
    obtain ⟨y, zs, rfl, h1, h2⟩ := h
    rw [R_v h1, vs_of h2]; rfl

theorem fs_eqlStruct {t t2 : TypeId} {n : Nat} {k : IntKind} {x y : Operand} {as bs : List Int} (ht : intStruct P t n = true) (hx : evu env x = some (.agg (as.map fun a => .v (.int k a)))) (hy : evu env y = some (.agg (bs.map fun a => .v (.int k a)))) (h1 : Nat.beq as.length n = true) (h2 : Nat.beq bs.length n = true) :
    FStep P ⟨d, .binOp .eql t x y t2, ty, pos, af, g⟩ env h 0 (fun _ => .b (decide (as = bs))) (fun _ => []) := by
  refine fs_val fun ρ S a w p => ⟨.bool (decide (as = bs)), ?_, R_v_mk _⟩
  have h3 := p.evu hx
  have h4 := p.evu hy
  simp only [R] at h3 h4
  obtain ⟨xs, e1, h3⟩ := h3
  obtain ⟨ys, e2, h4⟩ := h4
  have h3 := vs_of h3
  have h4 := vs_of h4
  have h1 := Nat.eq_of_beq_eq_true h1
  have h2 := Nat.eq_of_beq_eq_true h2
  unfold intStruct at ht
  split at ht
  case h_2 => cases ht
  rename_i fs hu
  simp only [Bool.and_eq_true, Bool.not_eq_true'] at ht
  obtain ⟨⟨⟨h5, h6⟩, h7⟩, h8⟩ := ht
  have h5 := Nat.eq_of_beq_eq_true h5
  have hfo : P.fieldsOf t = fs := by simp [Program.fieldsOf, hu]
  have hx2 : ∀ (j : Nat) a, as[j]? = some a → xs[0 + j]? = some (.int k a) := fun j a ha => by rw [Nat.zero_add, ← Array.getElem?_toList, h3]; simp [ha]
  have hy2 : ∀ (j : Nat) a, bs[j]? = some a → ys[0 + j]? = some (.int k a) := fun j a ha => by rw [Nat.zero_add, ← Array.getElem?_toList, h4]; simp [ha]
  have key := eq_fields w 9998 k fs.toList 0 xs ys as bs h6 (by simp; omega) (by omega) hx2 hy2
  have he : (Op.equalIn 10000 t (.agg xs) (.agg ys)).run P w = .ok (decide (as = bs)) w := by
    rw [run_equalIn_struct w 9999 t xs ys (by rw [hfo]; exact hu) h7, hfo]; exact key
  simp [execOp, e1, e2, run_eqGuard_agg w .eql t x y xs ys h8, run_eql_struct, he]
theorem fs_neqStruct {t t2 : TypeId} {n : Nat} {k : IntKind} {x y : Operand} {as bs : List Int} (ht : intStruct P t n = true) (hx : evu env x = some (.agg (as.map fun a => .v (.int k a)))) (hy : evu env y = some (.agg (bs.map fun a => .v (.int k a)))) (h1 : Nat.beq as.length n = true) (h2 : Nat.beq bs.length n = true) :
    FStep P ⟨d, .binOp .neq t x y t2, ty, pos, af, g⟩ env h 0 (fun _ => .b (!decide (as = bs))) (fun _ => []) := by
  refine fs_val fun ρ S a w p => ⟨.bool (!decide (as = bs)), ?_, R_v_mk _⟩
  have h3 := p.evu hx
  have h4 := p.evu hy
  simp only [R] at h3 h4
  obtain ⟨xs, e1, h3⟩ := h3
  obtain ⟨ys, e2, h4⟩ := h4
  have h3 := vs_of h3
  have h4 := vs_of h4
  have h1 := Nat.eq_of_beq_eq_true h1
  have h2 := Nat.eq_of_beq_eq_true h2
  unfold intStruct at ht
  split at ht
  case h_2 => cases ht
  rename_i fs hu
  simp only [Bool.and_eq_true, Bool.not_eq_true'] at ht
  obtain ⟨⟨⟨h5, h6⟩, h7⟩, h8⟩ := ht
  have h5 := Nat.eq_of_beq_eq_true h5
  have hfo : P.fieldsOf t = fs := by simp [Program.fieldsOf, hu]
  have hx2 : ∀ (j : Nat) a, as[j]? = some a → xs[0 + j]? = some (.int k a) := fun j a ha => by rw [Nat.zero_add, ← Array.getElem?_toList, h3]; simp [ha]
  have hy2 : ∀ (j : Nat) a, bs[j]? = some a → ys[0 + j]? = some (.int k a) := fun j a ha => by rw [Nat.zero_add, ← Array.getElem?_toList, h4]; simp [ha]
  have key := eq_fields w 9998 k fs.toList 0 xs ys as bs h6 (by simp; omega) (by omega) hx2 hy2
  have he : (Op.equalIn 10000 t (.agg xs) (.agg ys)).run P w = .ok (decide (as = bs)) w := by
    rw [run_equalIn_struct w 9999 t xs ys (by rw [hfo]; exact hu) h7, hfo]; exact key
  simp [execOp, e1, e2, run_eqGuard_agg w .neq t x y xs ys h8, run_neq_struct, he]

theorem fs_eql2 {t t2 : TypeId} {k : IntKind} {x y : Operand} {a b a' b' : Int} (ht : IntStruct P t 2) (hx : evu env x = some (.agg [.v (.int k a), .v (.int k b)])) (hy : evu env y = some (.agg [.v (.int k a'), .v (.int k b')])) :
    FStep P ⟨d, .binOp .eql t x y t2, ty, pos, af, g⟩ env h 0 (fun _ => .b (decide (a = a' ∧ b = b'))) (fun _ => []) := by
  have := fs_eqlStruct (d := d) (ty := ty) (pos := pos) (af := af) (g := g) (h := h) (t2 := t2) (as := [a, b]) (bs := [a', b']) ht hx hy rfl rfl
  simpa using this
theorem fs_neq2 {t t2 : TypeId} {k : IntKind} {x y : Operand} {a b a' b' : Int} (ht : IntStruct P t 2) (hx : evu env x = some (.agg [.v (.int k a), .v (.int k b)])) (hy : evu env y = some (.agg [.v (.int k a'), .v (.int k b')])) :
    FStep P ⟨d, .binOp .neq t x y t2, ty, pos, af, g⟩ env h 0 (fun _ => .b (!decide (a = a' ∧ b = b'))) (fun _ => []) := by
  have := fs_neqStruct (d := d) (ty := ty) (pos := pos) (af := af) (g := g) (h := h) (t2 := t2) (as := [a, b]) (bs := [a', b']) ht hx hy rfl rfl
  simpa using this
theorem fs_negr {t : TypeId} {x : Operand} {a : Int} (hx : evu env x = some (.i a)) (h1 : -9223372036854775807 ≤ a) (h2 : a ≤ 9223372036854775808) : FStep P ⟨d, .unOp .neg t x, ty, pos, af, g⟩ env h 0 (fun _ => .i (-a)) (fun _ => []) := by
  have := fs_neg (P := P) (h := h) (d := d) (ty := ty) (pos := pos) (af := af) (g := g) (t := t) hx
  rwa [IntWalk.i64_in _ (by omega)] at this
theorem fs_eqlB {t t2 : TypeId} {x y : Operand} {a b : Bool} (ht : BoolT P t) (hx : evu env x = some (.b a)) (hy : evu env y = some (.b b)) : FStep P ⟨d, .binOp .eql t x y t2, ty, pos, af, g⟩ env h 0 (fun _ => .b (a == b)) (fun _ => []) := by
  refine fs_val fun ρ S ac w p => ⟨.bool (a == b), ?_, R_v_mk _⟩
  have h1 := R_v (p.evu hx)
  have h2 := R_v (p.evu hy)
  have hg : (eqGuard .eql t x y (.bool a) (.bool b)).run P w = .ok () w := rfl
  simp [execOp, h1, h2, hg, run_eql_bool w t a b ht]
theorem fs_neqB {t t2 : TypeId} {x y : Operand} {a b : Bool} (ht : BoolT P t) (hx : evu env x = some (.b a)) (hy : evu env y = some (.b b)) : FStep P ⟨d, .binOp .neq t x y t2, ty, pos, af, g⟩ env h 0 (fun _ => .b (!(a == b))) (fun _ => []) := by
  refine fs_val fun ρ S ac w p => ⟨.bool (!(a == b)), ?_, R_v_mk _⟩
  have h1 := R_v (p.evu hx)
  have h2 := R_v (p.evu hy)
  have hg : (eqGuard .neq t x y (.bool a) (.bool b)).run P w = .ok () w := rfl
  simp [execOp, h1, h2, hg, run_neq_bool w t a b ht]
end

section
variable {P : Program} {n : Nat × Nat} {ops : Array Oper} {env : Env} {h : Hp} {K : Env → Hp → Prop} {rest : List Oper} {Q : Exit → Env → Hp → Prop} {code : Code}
/-- A nil slice is an empty slice of one's own. -/
theorem Sim.own {c : Ctx} {ρ : Pl} {S : Nat → Prop} {a : Act} {w : World} {t sz : Nat} (s : Sim n c ρ S env h a w) (ht : look env t = some .nils) (hs : 0 < sz) : Sim n c ρ S ((t, .sl h.length 0 0 sz) :: env) (h ++ [.arr [] sz]) a w := by
  refine ⟨s.size, s.defers, fun t' x hx => ?_, ?_, s.cm⟩
  · rw [look_cons] at hx
    split at hx
    · rename_i e
      subst e
      cases hx
      rw [R_v (s.env t _ ht)]
      simp only [R]
      exact ⟨none, 0, rfl, Nat.zero_le _, .inl ⟨trivial, rfl⟩⟩
    · exact s.env t' x hx
  · have hd := s.hs.dom h.length (Nat.le_refl _)
    have get : ∀ {j : Nat} {b : AB}, (h ++ [.arr [] sz])[j]? = some b → h[j]? = some b ∨ (j = h.length ∧ b = .arr [] sz) := fun {j b} hj => by
      by_cases hlt : j < h.length
      · rw [List.getElem?_append_left hlt] at hj; exact .inl hj
      · have := (List.getElem?_eq_some_iff.1 hj).1
        simp at this
        have e : j = h.length := by omega
        subst e
        simp at hj
        exact .inr ⟨rfl, hj.symm⟩
    refine ⟨fun k hk => s.hs.dom k (by simp at hk; omega), s.hs.rng, fun k b hb => ?_, fun k b p hb hg hp => ?_, fun k k' b b' p p' hb hb' hg hg' hp hp' e => ?_, s.hs.stab, s.hs.ext, s.hs.st0, s.hs.st1, by simp; exact Nat.le_succ_of_le s.hs.mle, s.hs.keep⟩
    · rcases get hb with hb | ⟨rfl, rfl⟩
      · exact s.hs.blk k b hb
      · simp only [RB]; exact ⟨(fun e he => by cases he), hs, .inl trivial⟩
    · rcases get hb with hb | ⟨rfl, rfl⟩
      · exact s.hs.live k b p hb hg hp
      · rw [hd] at hp; cases hp
    · rcases get hb with hb | ⟨rfl, rfl⟩
      · rcases get hb' with hb' | ⟨rfl, rfl⟩
        · exact s.hs.inj k k' b b' p p' hb hb' hg hg' hp hp' e
        · rw [hd] at hp'; cases hp'
      · rw [hd] at hp; cases hp
theorem vc_own (t sz : Nat) (ht : look env t = some .nils) (hs : 0 < sz) (hv : VC P n ops rest ((t, .sl h.length 0 0 sz) :: env) (h ++ [.arr [] sz]) K) : VC P n ops rest env h K :=
  fun c ρ S a w Q s hQ => hv c ρ S a w Q (s.own ht hs) hQ
theorem aw_own (t sz : Nat) (ht : look env t = some .nils) (hs : 0 < sz) (hv : AW P n code ((t, .sl h.length 0 0 sz) :: env) (h ++ [.arr [] sz]) Q) : AW P n code env h Q :=
  fun c ρ S a w QQ s hQ => hv c ρ S a w QQ (s.own ht hs) hQ
end
end Go.Ab
